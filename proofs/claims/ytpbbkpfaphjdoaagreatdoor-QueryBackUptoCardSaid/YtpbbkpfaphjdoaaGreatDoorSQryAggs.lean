/- query.items, walked, where aggregates stand. -/
import Derived.Test.YtpbbkpfaphjdoaaGreatDoorSQryGroup
namespace Go.Proofs.YtpbbkpfaphjdoaaGreatDoor
open Go.ChangeShapes Go.WideShapes Go.ChangeAt Go.RowKit
theorem aggs_cell' : ∀ l : List AggX, ∀ u ∈ aggXs l, u.oneCell' = true
 | [], u, h => by simp [aggXs] at h
 | a :: l, u, h => by
  have h : u ∈ aggXL a ++ aggXs l := h
  rcases List.mem_append.1 h with h | h
  ·simp only [aggXL, List.mem_cons, List.not_mem_nil, or_false] at h
   rcases h with rfl | rfl | rfl | rfl | rfl | rfl | rfl | rfl | rfl <;> rfl
  ·exact aggs_cell' l u h
theorem aggXs_snoc (l : List AggX) (a : AggX) : aggXs (l ++ [a]) = aggXs l ++ aggXL a := by simp [aggXs]
theorem parts_more {T : List Tok} {A : Option Addr} {rb qb : Nat} {w0 wr wy wz wf : World} {e sz n m g cap : Nat} {v : Value} {xs : List Value} (hL : Lies T A rb qb w0) (hrow : wr.ownsRow w0.heap.size e sz v n xs) (R : Nat → Prop) (hR : ∀ b, wr.heap.size ≤ b → R b)
  (ho : Only (fun k => k = rb) wr wy) (hs : w0.heap.size ≤ wr.heap.size) (hb : Below wy.heap.size wy wz) (hgr : wz.grownBy wf v.ownBlock) (hat : v.ownBlock = some g ∨ g = wz.heap.size) {z : Ex}
  (hz : SeesS (fun b => (w0.heap.size ≤ b ∧ v.ownBlock ≠ some b) ∧ R b) wr z ∨ SeesS (fun b => wr.heap.size ≤ b) wy z) (o : Nat) (u : Value) :
  SeesS (fun b => (w0.heap.size ≤ b ∧ (Value.slice (some ⟨g, 0, none⟩) m cap).ownBlock ≠ some b) ∧ R b) (wf.setCell ⟨qb, o, none⟩ u) z := by
 have hlt : ∀ k, v.ownBlock = some k → w0.heap.size ≤ k ∧ k < wr.heap.size := fun k hk => hrow.lt k hk
 have h1 : Only (fun b => v.ownBlock = some b) wz wf := Only.of_grown hgr (fun k hk => hk.symm)
 have h2 : Only (fun b => b = qb) wf (wf.setCell ⟨qb, o, none⟩ u) := putAll_only [u] wf qb o
 have hs1 := ho.size
 have hs2 := hb.size
 have key : SeesS (fun b => ((w0.heap.size ≤ b ∧ v.ownBlock ≠ some b) ∧ R b) ∧ b < wy.heap.size) wy z := by
  rcases hz with hz | hz
  ·exact seesS_lt2 (hz.keep (alike_only2 ho (fun b hb e => by have e : b = rb := e; have := hb.1.1; have := hL.rd; omega)))
  ·exact (seesS_lt2 hz).mono (fun b hb => ⟨⟨⟨by have := hb.1; omega, fun e => by have := (hlt b e).2; have := hb.1; omega⟩, hR b hb.1⟩, hb.2⟩)
 refine (((key.keep (.of_below hb)).keep (alike_only2 h1 (fun b hb e => hb.1.1.2 e))).keep (alike_only2 h2 (fun b hb e => by have e : b = qb := e; have := hb.1.1.1; have := hL.q; omega))).mono (fun b hb => ⟨⟨hb.1.1.1, fun e => ?_⟩, hb.1.2⟩)
 injection e with e
 have e : g = b := e
 subst e
 rcases hat with e | e
 ·exact hb.1.1.2 e
 ·have := hb.2; omega
structure AggsAt (T : List Tok) (E rb qb : Nat) (A : Option Addr) (c : Nat) (w0 wr : World) (k j : Nat) (va : Value) (al : List AggX) : Prop where
 len : al.length = k
 row : wr.ownsRow w0.heap.size 99 9 va k (aggXs al)
 q : RowL wr qb 30 (qL ⟨#[]⟩ zeroE (.slice none 0 0) (.slice none 0 0) (.slice none 0 0) 0 0 va)
 rd : RdAt T E wr rb A c j
 only : Only (fun b => b = rb ∨ b = qb) w0 wr
 sz : ∀ a ∈ al, a.what.size ≤ 400 ∧ a.name.size ≤ 400
 parts : ∀ a ∈ al, SeesS (fun b => (w0.heap.size ≤ b ∧ va.ownBlock ≠ some b) ∧ True) wr a.of
section
variable {T : List Tok} {E rb qb : Nat} {A : Option Addr} {c : Nat} {w0 wr : World} {k j : Nat} {va : Value} {al : List AggX}
theorem AggsAt.more (h : AggsAt T E rb qb A c w0 wr k j va al) (hL : Lies T A rb qb w0) {a : AggX} (ha : a.name.size ≤ 400 ∧ a.what.size ≤ 400) {wy wz wf : World} {j2 g cap : Nat}
  (ho : Only (fun b => b = rb) wr wy) (hr : RdAt T E wy rb A c j2) (hy : SeesS (fun b => wr.heap.size ≤ b) wy a.of) (hb : Below wy.heap.size wy wz) (hgr : wz.grownBy wf va.ownBlock) (hat : va.ownBlock = some g ∨ g = wz.heap.size) (hown : wf.ownsRow w0.heap.size 99 9 (.slice (some ⟨g, 0, none⟩) (k + 1) cap) (k + 1) (aggXs al ++ aggXL a)) :
  (wf.cell? ⟨qb, 13, none⟩ = some va ∧ wf.frozen? ⟨qb, 13, none⟩ = false ∧ qb < wf.heap.size) ∧ AggsAt T E rb qb A c w0 (wf.setCell ⟨qb, 13, none⟩ (.slice (some ⟨g, 0, none⟩) (k + 1) cap)) (k + 1) j2 (.slice (some ⟨g, 0, none⟩) (k + 1) cap) (al ++ [a]) := by
 obtain ⟨h1, h2, h3, h4⟩ := grown_beside hL h.row ho hr h.only hb hgr hown 13 (.slice (some ⟨g, 0, none⟩) (k + 1) cap)
 have hq := h4 _ _ h.q
 refine ⟨⟨hq.cell rfl, hq.free 13, hq.lt⟩, ⟨by rw [List.length_append, h.len]; rfl, by rw [aggXs_snoc]; exact h1, hq.set 13 _, h2, h3, fun u hu => ?_, fun u hu => ?_⟩⟩
 ·rcases List.mem_append.1 hu with hu | hu
  ·exact h.sz u hu
  ·simp at hu; subst hu; exact ⟨ha.2, ha.1⟩
 ·refine parts_more hL h.row (fun _ => True) (fun _ _ => trivial) ho h.only.size hb hgr hat ?_ _ _
  rcases List.mem_append.1 hu with hu | hu
  ·exact Or.inl (h.parts u hu)
  ·simp at hu; subst hu; exact Or.inr hy
theorem AggsAt.to (h : AggsAt T E rb qb A c w0 wr k j va al) (hL : Lies T A rb qb w0) {w' : World} {j' : Nat} (ho : Only (fun b => b = rb) wr w') (hr : RdAt T E w' rb A c j') : AggsAt T E rb qb A c w0 w' k j' va al :=
 ⟨h.len, ho.own h.row (fun b hb e => by have := (h.row.lt b hb).1; have e : b = rb := e; have := hL.rd; omega), h.q.only ho hL.ne, hr, h.only.trans (ho.mono (fun _ e => Or.inl e)), h.sz, fun a ha => (h.parts a ha).keep (alike_only2 ho (fun b hb e => by have e : b = rb := e; have := hb.1.1; have := hL.rd; omega))⟩
end
def ItemsV (w : World) (qb : Nat) (g : Bool) (p : QP) (v : Value) (w' : World) : Prop := v = .bool g ∧ ∃ y : QX, RowL w' qb 30 (qxL y) ∧ SeesQ (fun b => w.heap.size ≤ b) w' y ∧ qpX y = p ∧ y.GA = none ∧ y.gc = 0 ∧ y.group = []
theorem AggsAt.says {T : List Tok} {E rb qb : Nat} {A : Option Addr} {c : Nat} {w0 wr : World} {k j : Nat} {va : Value} {al : List AggX} (h : AggsAt T E rb qb A c w0 wr k j va al) : ItemsV w0 qb true { zeroQ with aggs := al.map aggP } (.bool true) wr := by
 obtain ⟨AA, ac, rfl⟩ := own_shape h.row
 obtain ⟨AA', ac', e5, hs5⟩ := SeesIn.of_own (S := fun b => w0.heap.size ≤ b) h.row (fun b h _ => h)
 injection e5 with e5 _ e6
 subst e5 e6
 have hk : al.length = k := h.len
 subst hk
 have hz := zeroQX_sees (fun b => w0.heap.size ≤ b) wr
 refine ⟨rfl, { zeroQX with AA := AA, ac := ac, aggs := al }, h.q, ⟨hz.wher, hz.cols, hz.colsAt, hz.names, hz.group, hs5, fun a ha => (h.parts a ha).mono (fun b hb => hb.1.1), ⟨hz.sizes.1, hz.sizes.2.1, hz.sizes.2.2.1, fun a ha => ?_⟩, hz.nums⟩, rfl, rfl, rfl, rfl⟩
 have := h.sz a ha
 unfold maxLen
 omega
theorem oracle_gain {T : List Tok} {E : Nat} {X : Nat → PR} (hX : Oracle T E X) {i : Nat} {x : Ex} {j : Nat} (hi : i ≤ T.length) (h : X i = .ok (x, j)) : i + 1 ≤ j ∧ j ≤ T.length := by
 have := rd_on (hX i hi) x j h hi
 exact this
theorem asQ_gain {T : List Tok} {E i j : Nat} {s : List UInt8} (h : asQ T E i = .ok (s, j)) : i < j := by
 unfold asQ at h
 cases h1 : needQ T E qAs i with
 | error k => rw [h1] at h; cases h
 | ok j1 =>
  rw [h1] at h
  have h : nameQ T E j1 = .ok (s, j) := h
  unfold needQ at h1
  unfold nameQ at h
  split at h1
  ·injection h1 with h1
   split at h
   ·injection h with h; injection h with _ h; omega
   ·cases h
  ·cases h1
theorem agg_gain {T : List Tok} {E : Nat} {X : Nat → PR} {i j : Nat} {a : AggP} (h : aggQ T E X i = .ok (a, j)) (hX : Oracle T E X) : i + 1 < j := by
 unfold aggQ at h
 split at h
 ·split at h
  ·cases h1 : asQ T E (i + 1) with
   | error k => rw [h1] at h; cases h
   | ok p =>
    obtain ⟨s, j1⟩ := p
    rw [h1] at h
    have := asQ_gain h1
    injection h with h
    injection h with _ h
    have h : j1 = j := h
    omega
  ·cases h0 : ofQ T E X (i + 1) with
   | error k => rw [h0] at h; cases h
   | ok p =>
    obtain ⟨x, j0⟩ := p
    rw [h0] at h
    have hj : i + 1 ≤ j0 := by
     unfold ofQ needQ at h0
     split at h0
     ·rename_i hop
      have hil := isT_lt hop
      cases h2 : X (i + 1 + 1) with
      | error k => have h0 : ((X (i + 1 + 1)).bind _) = _ := h0; rw [h2] at h0; cases h0
      | ok p2 =>
       obtain ⟨x2, j2⟩ := p2
       have h3 := (oracle_gain hX (by omega) h2).1
       have h0 : ((X (i + 1 + 1)).bind _) = _ := h0
       rw [h2] at h0
       have h0 : (if isT T j2 wClose = true then Except.ok (j2 + 1) else Except.error (atT T E j2)).bind (fun k => Except.ok (x2, k)) = Except.ok (x, j0) := h0
       split at h0
       ·injection h0 with h0; injection h0 with _ h0; omega
       ·cases h0
     ·cases h0
    have h : ((asQ T E j0).bind _) = _ := h
    cases h1 : asQ T E j0 with
    | error k => rw [h1] at h; cases h
    | ok p =>
     obtain ⟨s, j1⟩ := p
     rw [h1] at h
     have := asQ_gain h1
     injection h with h
     injection h with _ h
     have h : j1 = j := h
     omega
 ·cases h
theorem isAg_B (T : List Tok) (i : Nat) : (aggsB.any fun s => isT T i s.data.toList) = isAg T i := by
 unfold aggsB isAg
 rw [List.any_map]
 rfl
section
variable {T : List Tok} {E : Nat} {X : Nat → PR} {w : World} {rb : Nat} {A : Option Addr} {c i : Nat} {wB : World}
theorem agg_ok {a : AggP} {j : Nat} (hn : aggQ T E X i = .ok (a, j)) (h : RdAt T E w rb A c i) (hW : Words T E) (hX : Oracle T E X) (hE : Env wB w rb) (hA : AggsT wB) : Calls Tryz.prog 166 #[.pointer (some ⟨rb, 0, none⟩)] w fun e w' => ∃ v, e = .returned v ∧ AggVv w a v w' ∧ RdAt T E w' rb A c j ∧ Only (fun k => k = rb) w w' :=
 (aggFn_any hW hX i wB w rb A c h hE hA).mono fun e w' h => by rw [hn] at h; exact h
theorem agg_no {k : Nat} (hn : aggQ T E X i = .error k) (h : RdAt T E w rb A c i) (hW : Words T E) (hX : Oracle T E X) (hE : Env wB w rb) (hA : AggsT wB) : Calls Tryz.prog 166 #[.pointer (some ⟨rb, 0, none⟩)] w fun e w' => e = wrongAt k ∧ Only (fun k => k = rb) w w' :=
 (aggFn_any hW hX i wB w rb A c h hE hA).mono fun e w' h => by rw [hn] at h; exact h
end
set_option maxHeartbeats 8000000 in
set_option maxRecDepth 100000 in
theorem items_aggs {T : List Tok} {E : Nat} (hW : Words T E) {X : Nat → PR} (hX : Oracle T E X) (j : Nat) (wB w : World) (rb qb : Nat) (A : Option Addr) (c : Nat) (hR : RdAt T E w rb A c j) (hE : Env wB w rb) (hA : AggsT wB) (hqB : wB.heap.size ≤ qb) (hL : Lies T A rb qb w) (hq : RowL w qb 30 (qxL zeroQX)) (hag : isAg T j = true) :
  Calls Tryz.prog 106 #[.pointer (some ⟨rb, 0, none⟩), .pointer (some ⟨qb, 0, none⟩)] w (QSays2 T E rb qb A c w (ItemsV w qb true) (aggsQ T E X (T.length + 1) zeroQ j)) := by
 have hmf : ∀ (fn : Fn) (first cap : Array Value) (w : World), (Instr.makeFunc fn first cap).run Tryz.prog w = .ok (.func fn first cap) w := fun _ _ _ _ => rfl
 obtain ⟨r, hr⟩ : ∃ r, aggsQ T E X (T.length + 1) zeroQ j = r := ⟨_, rfl⟩
 have T1 := Lib.hid (anyIs hR hW aggsB _ 4 4 (hA.keep hE.below))
 rw [isAg_B, hag] at T1
 have HWW := Lib.hid hW
 have HXX := Lib.hid hX
 have HR := Lib.hid hr
 have HE := Lib.hid hE
 have HA := Lib.hid hA
 have HQB := Lib.hid hqB
 have HL := Lib.hid hL
 have HG0 := Lib.hid (show AggsAt T E rb qb A c w w 0 j (.slice none 0 0) [] from ⟨rfl, World.ownsRow_nil _ _ _ _, hq, hR, .refl _ _, (fun a h => by cases h), (fun a h => by cases h)⟩)
 rw [hr]
 clear hW hX hR hE hA hL hq hr hqB hag
 go_enter Tryz.func106, Tryz.ntmps106
 go_wp2_with fail
 refine (T1.out).mono ?_
 rintro e' w2 ⟨rfl, hb2⟩
 have HG2 := Lib.hid (HG0.out.to HL.out (.of_below hb2) (HG0.out.rd.keep hb2))
 have HE2 := Lib.hid (HE.out.keep hb2)
 clear hb2 T1 HG0
 have HC := Lib.hid (show w2.drew.cell? ⟨qb, 13, none⟩ = some (.slice none 0 0) from HG2.out.q.cell rfl)
 cases hnm : aggQ T E X j with
 | error ke =>
  have T9 := Lib.hid (agg_no hnm (HG2.out.rd.keep (Below.refl _ _).drew) HWW.out HXX.out (HE2.out.keep (Below.refl _ _).drew) HA.out)
  replace HR := Lib.hid (show .error ke = r by rw [← HR.out]; show _ = ((aggQ T E X j).bind _); rw [hnm]; rfl)
  clear hnm
  go_wp2_with fail
  refine regionD (fun w' => w'.cell? ⟨qb, 13, none⟩ = some (.slice none 0 0)) 8 (by kernel_rfl) ?_
  refine takeP (i := 0) (dst := some 9) (v := .pointer (some ⟨qb, 0, none⟩)) rfl rfl (by kernel_rfl) (by kernel_rfl) (by kernel_rfl) (fun _ _ _ h => h) (by decide) (Or.inl ⟨by rfl, fun w' _ => by go_simp⟩) (Or.inr HC.out) ?_
  simp only [Act.put, aS, aZ, aC]
  refine takeP (i := 1) (dst := some 10) (v := .pointer (some ⟨qb, 0, none⟩)) rfl rfl (by kernel_rfl) (by kernel_rfl) (by kernel_rfl) (fun _ _ _ h => h) (by decide) (Or.inl ⟨by rfl, fun w' _ => by go_simp⟩) (Or.inr HC.out) ?_
  simp only [Act.put, aS, aZ, aC]
  refine takeP (i := 2) (dst := some 11) (v := .pointer (some ⟨qb, 0, none⟩)) rfl rfl (by kernel_rfl) (by kernel_rfl) (by kernel_rfl) (fun _ _ _ h => h) (by decide) (Or.inl ⟨by rfl, fun w' _ => by go_simp⟩) (Or.inr HC.out) ?_
  simp only [Act.put, aS, aZ, aC]
  refine takeP (i := 3) (dst := some 12) (v := .pointer (some ⟨qb, 13, none⟩)) rfl rfl (by kernel_rfl) (by kernel_rfl) (by kernel_rfl) (fun _ _ _ h => h) (by decide) (Or.inl ⟨by rfl, fun w' _ => by go_simp⟩) (Or.inr HC.out) ?_
  simp only [Act.put, aS, aZ, aC]
  refine takeD (i := 4) (dst := some 13) (v := .slice none 0 0) rfl rfl (by kernel_rfl) (by kernel_rfl) (by kernel_rfl) (fun _ _ _ h => h) (by decide) (by kernel_rfl) (by kernel_rfl) (Or.inl ⟨by rfl, fun w' h => by go_simp⟩) HC.out ?_
  simp only [Act.put, aS, aZ, aC]
  refine takeP (i := 5) (dst := some 14) (v := .pointer (some ⟨rb, 0, none⟩)) rfl rfl (by kernel_rfl) (by kernel_rfl) (by kernel_rfl) (fun _ _ _ h => h) (by decide) (Or.inl ⟨by rfl, fun w' _ => by go_simp⟩) (Or.inr HC.out) ?_
  simp only [Act.put, aS, aZ, aC]
  exact oneD (i := 6) (by kernel_rfl) (wpOp_panics rfl (by rfl) (f := 166) (args := #[.pointer (some ⟨rb, 0, none⟩)]) (by go_simp) (T9.out.mono fun e w' ⟨h1, h2⟩ => ⟨h1, h2⟩) (fun wy hny => ⟨rfl, by rw [← HR.out]; exact ⟨rfl, HG2.out.only.trans ((hny.drewL).mono (fun k e => Or.inl e))⟩⟩))
 | ok pp =>
  obtain ⟨ap, j1⟩ := pp
  have T9 := Lib.hid (agg_ok hnm (HG2.out.rd.keep (Below.refl _ _).drew) HWW.out HXX.out (HE2.out.keep (Below.refl _ _).drew) HA.out)
  have HRG := Lib.hid (show (if isT T j1 wComma = true then aggsQ T E X T.length { zeroQ with aggs := [ap] } (j1 + 1) else .ok ({ zeroQ with aggs := [ap] }, j1)) = aggsQ T E X (T.length + 1) zeroQ j by
   show _ = ((aggQ T E X j).bind _)
   rw [hnm]; rfl)
  have HGT := Lib.hid (agg_gain hnm HXX.out)
  clear hnm
  go_wp2_with fail
  refine regionD (fun w' => w'.cell? ⟨qb, 13, none⟩ = some (.slice none 0 0)) 8 (by kernel_rfl) ?_
  refine takeP (i := 0) (dst := some 9) (v := .pointer (some ⟨qb, 0, none⟩)) rfl rfl (by kernel_rfl) (by kernel_rfl) (by kernel_rfl) (fun _ _ _ h => h) (by decide) (Or.inl ⟨by rfl, fun w' _ => by go_simp⟩) (Or.inr HC.out) ?_
  simp only [Act.put, aS, aZ, aC]
  refine takeP (i := 1) (dst := some 10) (v := .pointer (some ⟨qb, 0, none⟩)) rfl rfl (by kernel_rfl) (by kernel_rfl) (by kernel_rfl) (fun _ _ _ h => h) (by decide) (Or.inl ⟨by rfl, fun w' _ => by go_simp⟩) (Or.inr HC.out) ?_
  simp only [Act.put, aS, aZ, aC]
  refine takeP (i := 2) (dst := some 11) (v := .pointer (some ⟨qb, 0, none⟩)) rfl rfl (by kernel_rfl) (by kernel_rfl) (by kernel_rfl) (fun _ _ _ h => h) (by decide) (Or.inl ⟨by rfl, fun w' _ => by go_simp⟩) (Or.inr HC.out) ?_
  simp only [Act.put, aS, aZ, aC]
  refine takeP (i := 3) (dst := some 12) (v := .pointer (some ⟨qb, 13, none⟩)) rfl rfl (by kernel_rfl) (by kernel_rfl) (by kernel_rfl) (fun _ _ _ h => h) (by decide) (Or.inl ⟨by rfl, fun w' _ => by go_simp⟩) (Or.inr HC.out) ?_
  simp only [Act.put, aS, aZ, aC]
  refine takeD (i := 4) (dst := some 13) (v := .slice none 0 0) rfl rfl (by kernel_rfl) (by kernel_rfl) (by kernel_rfl) (fun _ _ _ h => h) (by decide) (by kernel_rfl) (by kernel_rfl) (Or.inl ⟨by rfl, fun w' h => by go_simp⟩) HC.out ?_
  simp only [Act.put, aS, aZ, aC]
  refine takeP (i := 5) (dst := some 14) (v := .pointer (some ⟨rb, 0, none⟩)) rfl rfl (by kernel_rfl) (by kernel_rfl) (by kernel_rfl) (fun _ _ _ h => h) (by decide) (Or.inl ⟨by rfl, fun w' _ => by go_simp⟩) (Or.inr HC.out) ?_
  simp only [Act.put, aS, aZ, aC]
  refine oneD (i := 6) (by kernel_rfl) (wpOp_returnsD (d := some 15) rfl rfl (by rfl) (f := 166) (args := #[.pointer (some ⟨rb, 0, none⟩)]) (by go_simp) T9.out ?_)
  rintro e wy ⟨v, rfl, ⟨a, rfl, hsa, hpa, hnz⟩, hry, hny⟩
  have HC2 := Lib.hid (only_cell hny HC.out HL.out.ne)
  refine ⟨_, rfl, Or.inr HC2.out, ?_⟩
  simp only [Act.put, aS, aZ, aC]
  unfold aggXV
  have HNZ := Lib.hid hnz
  have HPA := Lib.hid hpa
  have hbz := belowNew' wy (.cells #[.string a.what, .string a.of.op, .string a.of.name, .int .i64 a.of.val.type, .int .i64 a.of.val.n, .string a.of.val.s, .slice a.of.A a.of.args.length a.of.c, .int .i64 a.of.pos, .string a.name] 99)
  have hrow : (wy.alloc (.cells #[.string a.what, .string a.of.op, .string a.of.name, .int .i64 a.of.val.type, .int .i64 a.of.val.n, .string a.of.val.s, .slice a.of.A a.of.args.length a.of.c, .int .i64 a.of.pos, .string a.name] 99)).heap[wy.heap.size]? = some (.cells (aggXs [a]).toArray 99 (0, 0)) := heap_alloc_new wy _
  refine oneD (i := 7) (by kernel_rfl) (wpOp_valueD (d := some 16) rfl rfl (by rfl) (v := .slice (some ⟨wy.heap.size, 0, none⟩) 1 1) (w' := wy.alloc (.cells #[.string a.what, .string a.of.op, .string a.of.name, .int .i64 a.of.val.type, .int .i64 a.of.val.n, .string a.of.val.s, .slice a.of.A a.of.args.length a.of.c, .int .i64 a.of.pos, .string a.name] 99)) (by go_simp) ?_)
  generalize wy.alloc (.cells #[.string a.what, .string a.of.op, .string a.of.name, .int .i64 a.of.val.type, .int .i64 a.of.val.n, .string a.of.val.s, .slice a.of.A a.of.args.length a.of.c, .int .i64 a.of.pos, .string a.name] 99) = wz at hbz hrow ⊢
  have HC3 := Lib.hid ((hbz.cell (p := ⟨qb, _, none⟩) (World.block_lt_of_cell? wy _ HC2.out)).trans HC2.out)
  refine ⟨Or.inr HC3.out, ?_⟩
  simp only [Act.put, aS, aZ, aC]
  refine oneD (i := 8) (by kernel_rfl) (wpOp_append_one (d := some 17) aggSlice rfl rfl rfl (.tmp 13) (.tmp 16) rfl (v := .slice none 0 0) (n := 0) (xs := aggXs []) (ys := [.string a.what, .string a.of.op, .string a.of.name, .int .i64 a.of.val.type, .int .i64 a.of.val.n, .string a.of.val.s, .slice a.of.A a.of.args.length a.of.c, .int .i64 a.of.pos, .string a.name]) (b := wy.heap.size) (c := 1) (H := wz.heap.size) rfl rfl (show wz.ownsRow w.heap.size 99 9 (.slice none 0 0) 0 [] ∧ w.heap.size ≤ wz.heap.size from ⟨World.ownsRow_nil _ _ _ _, by have := HG2.out.only.size; have := hny.size; have := hbz.size; have e : w2.drew.heap.size = w2.heap.size := rfl; omega⟩).1 (show wz.ownsRow w.heap.size 99 9 (.slice none 0 0) 0 [] ∧ w.heap.size ≤ wz.heap.size from ⟨World.ownsRow_nil _ _ _ _, by have := HG2.out.only.size; have := hny.size; have := hbz.size; have e : w2.drew.heap.size = w2.heap.size := rfl; omega⟩).2 rfl (fun q u hu => ?_) (aggs_cell' [a]) (by omega) rfl ?_)
  ·have hu' : (aggXs [a])[q]? = some u := hu
   have hcq : wz.cell? ⟨wy.heap.size, q, none⟩ = some u := by rw [cell_of_row _ _ _ _ _ _ hrow]; simpa using hu'
   rw [addr_add0]; exact hcq
  intro g cap wf hown hgr hat
  have HMORE := Lib.hid (HG2.out.more HL.out HNZ.out hny.drewL hry hsa hbz hgr hat hown)
  refine ⟨Or.inl (by kernel_rfl), ?_⟩
  simp only [Act.put, aS, aZ, aC]
  obtain ⟨qc, qf, ql⟩ := (HMORE.out).1
  refine takeP (i := 9) (dst := some 18) (v := .pointer (some ⟨qb, 0, none⟩)) rfl rfl (by kernel_rfl) (by kernel_rfl) (by kernel_rfl) (fun _ _ _ h => h) (by decide) (Or.inl ⟨by rfl, fun w' _ => by go_simp⟩) (Or.inl (by kernel_rfl)) ?_
  simp only [Act.put, aS, aZ, aC]
  refine takeP (i := 10) (dst := some 19) (v := .pointer (some ⟨qb, 13, none⟩)) rfl rfl (by kernel_rfl) (by kernel_rfl) (by kernel_rfl) (fun _ _ _ h => h) (by decide) (Or.inl ⟨by rfl, fun w' _ => by go_simp⟩) (Or.inl (by kernel_rfl)) ?_
  simp only [Act.put, aS, aZ, aC]
  refine oneD (i := 11) (by kernel_rfl) (wpOp_skip rfl (by rfl) (w' := wf.setCell ⟨qb, 13, none⟩ (.slice (some ⟨g, 0, none⟩) (0 + 1) cap)) (by go_simp) ?_)
  refine ⟨Or.inl (by kernel_rfl), ?_⟩
  simp only [Act.put]
  refine doneD (by kernel_rfl) ?_ _
  generalize wf.setCell ⟨qb, 13, none⟩ (.slice (some ⟨g, 0, none⟩) (0 + 1) cap) = wg at HMORE ⊢
  clear qc qf ql
  have HG3 := Lib.hid (show AggsAt T E rb qb A c w wg 1 j1 (.slice (some ⟨g, 0, none⟩) 1 cap) [a] from HMORE.out.2)
  have HJ := Lib.hid hry.le
  clear hown hgr hat HMORE hbz hrow hry hny hsa hpa hnz HC HC2 HC3 T9 HNZ
  go_wp2_with fail
  go_loopw [] (fun wr => ∃ (k j2 f : Nat) (va : Value) (al : List AggX), AggsAt T E rb qb A c w wr k j2 va al ∧ T.length ≤ j2 + f ∧ k ≤ j2 ∧ (if isT T j2 wComma = true then aggsQ T E X f { zeroQ with aggs := al.map aggP } (j2 + 1) else .ok ({ zeroQ with aggs := al.map aggP }, j2)) = aggsQ T E X (T.length + 1) zeroQ j) (fun wr => T.length - rdIdx wr rb)
  case atStart => exact ⟨1, j1, T.length, _, _, HG3.out, by omega, by have := HGT.out; omega, by rw [← HRG.out, ← HPA.out]; rfl⟩
  case round =>
   obtain ⟨k, j2, f, va, al, hg, hf, hkj, hl⟩ := hrel
   have HG := Lib.hid hg
   have HF := Lib.hid (show T.length ≤ j2 + f ∧ k ≤ j2 from ⟨hf, hkj⟩)
   have HGQ := Lib.hid hl
   have T4 := Lib.hid (has_any hg.rd HWW.out ⟨#[44]⟩)
   have HIX := Lib.hid hg.rd.idx
   clear hg hf hkj hl HG3 HRG
   unfold StepSays at T4
   obtain ⟨b, hb⟩ : ∃ b, isT T j2 wComma = b := ⟨_, rfl⟩
   rw [show isT T j2 (⟨#[44]⟩ : ByteArray).data.toList = b from hb] at T4
   rw [hb] at HGQ
   have HB := Lib.hid hb
   clear hb
   cases b with
   | true =>
    go_wp2_with fail
    refine (T4.out).mono ?_
    rintro e' wx ⟨rfl, hrx, hnx⟩
    have hrx2 : RdAt T E wx rb A c (j2 + 1) := hrx
    have HGX := Lib.hid (HG.out.to HL.out hnx hrx2)
    have HFX := Lib.hid (show T.length ≤ j2 + f ∧ j2 < T.length ∧ k ≤ j2 from ⟨HF.out.1, isT_lt HB.out, HF.out.2⟩)
    have HEX := Lib.hid (HE.out.two HGX.out.only HQB.out)
    clear hrx hrx2 hnx T4
    obtain ⟨f', rfl⟩ : ∃ f', f = f' + 1 := ⟨f - 1, by have := HFX.out; omega⟩
    have HC := Lib.hid (show wx.drew.cell? ⟨qb, 13, none⟩ = some va from HGX.out.q.cell rfl)
    obtain ⟨AA, ac, rfl⟩ := own_shape HGX.out.row
    cases hnm : aggQ T E X (j2 + 1) with
    | error ke =>
     have T9 := Lib.hid (agg_no hnm (HGX.out.rd.keep (Below.refl _ _).drew) HWW.out HXX.out (HEX.out.keep (Below.refl _ _).drew) HA.out)
     have HR2 := Lib.hid (show .error ke = r by
      rw [← HR.out, ← HGQ.out, if_pos trivial]
      show _ = ((aggQ T E X (j2 + 1)).bind _); rw [hnm]; rfl)
     clear hnm
     go_wp2_with fail
     refine regionD (fun w' => w'.cell? ⟨qb, 13, none⟩ = some (.slice AA k ac)) 8 (by kernel_rfl) ?_
     refine takeP (i := 0) (dst := some 22) (v := .pointer (some ⟨qb, 0, none⟩)) rfl rfl (by kernel_rfl) (by kernel_rfl) (by kernel_rfl) (fun _ _ _ h => h) (by decide) (Or.inl ⟨by rfl, fun w' _ => by go_simp⟩) (Or.inr HC.out) ?_
     simp only [Act.put, aS, aZ, aC]
     refine takeP (i := 1) (dst := some 23) (v := .pointer (some ⟨qb, 0, none⟩)) rfl rfl (by kernel_rfl) (by kernel_rfl) (by kernel_rfl) (fun _ _ _ h => h) (by decide) (Or.inl ⟨by rfl, fun w' _ => by go_simp⟩) (Or.inr HC.out) ?_
     simp only [Act.put, aS, aZ, aC]
     refine takeP (i := 2) (dst := some 24) (v := .pointer (some ⟨qb, 0, none⟩)) rfl rfl (by kernel_rfl) (by kernel_rfl) (by kernel_rfl) (fun _ _ _ h => h) (by decide) (Or.inl ⟨by rfl, fun w' _ => by go_simp⟩) (Or.inr HC.out) ?_
     simp only [Act.put, aS, aZ, aC]
     refine takeP (i := 3) (dst := some 25) (v := .pointer (some ⟨qb, 13, none⟩)) rfl rfl (by kernel_rfl) (by kernel_rfl) (by kernel_rfl) (fun _ _ _ h => h) (by decide) (Or.inl ⟨by rfl, fun w' _ => by go_simp⟩) (Or.inr HC.out) ?_
     simp only [Act.put, aS, aZ, aC]
     refine takeD (i := 4) (dst := some 26) (v := .slice AA k ac) rfl rfl (by kernel_rfl) (by kernel_rfl) (by kernel_rfl) (fun _ _ _ h => h) (by decide) (by kernel_rfl) (by kernel_rfl) (Or.inl ⟨by rfl, fun w' h => by go_simp⟩) HC.out ?_
     simp only [Act.put, aS, aZ, aC]
     refine takeP (i := 5) (dst := some 27) (v := .pointer (some ⟨rb, 0, none⟩)) rfl rfl (by kernel_rfl) (by kernel_rfl) (by kernel_rfl) (fun _ _ _ h => h) (by decide) (Or.inl ⟨by rfl, fun w' _ => by go_simp⟩) (Or.inr HC.out) ?_
     simp only [Act.put, aS, aZ, aC]
     exact oneD (i := 6) (by kernel_rfl) (wpOp_panics rfl (by rfl) (f := 166) (args := #[.pointer (some ⟨rb, 0, none⟩)]) (by go_simp) (T9.out.mono fun e w' ⟨h1, h2⟩ => ⟨h1, h2⟩) (fun wy hny => ⟨rfl, by rw [← HR2.out]; exact ⟨rfl, HGX.out.only.trans ((hny.drewL).mono (fun k e => Or.inl e))⟩⟩))
    | ok pp =>
     obtain ⟨ap, j3⟩ := pp
     have T9 := Lib.hid (agg_ok hnm (HGX.out.rd.keep (Below.refl _ _).drew) HWW.out HXX.out (HEX.out.keep (Below.refl _ _).drew) HA.out)
     have HKL := Lib.hid (show k ≤ 400 by have := HFX.out; have := HWW.out.len; omega)
     have hkl : k ≤ 400 := HKL.out
     have HGQ2 := Lib.hid (show (if isT T j3 wComma = true then aggsQ T E X f' { zeroQ with aggs := al.map aggP ++ [ap] } (j3 + 1) else .ok ({ zeroQ with aggs := al.map aggP ++ [ap] }, j3)) = aggsQ T E X (T.length + 1) zeroQ j by
      rw [← HGQ.out]
      refine Eq.trans ?_ (if_pos trivial).symm
      show _ = ((aggQ T E X (j2 + 1)).bind _)
      rw [hnm]; rfl)
     have HGT2 := Lib.hid (agg_gain hnm HXX.out)
     clear hnm HGQ
     go_wp2_with fail
     refine regionD (fun w' => w'.cell? ⟨qb, 13, none⟩ = some (.slice AA k ac)) 8 (by kernel_rfl) ?_
     refine takeP (i := 0) (dst := some 22) (v := .pointer (some ⟨qb, 0, none⟩)) rfl rfl (by kernel_rfl) (by kernel_rfl) (by kernel_rfl) (fun _ _ _ h => h) (by decide) (Or.inl ⟨by rfl, fun w' _ => by go_simp⟩) (Or.inr HC.out) ?_
     simp only [Act.put, aS, aZ, aC]
     refine takeP (i := 1) (dst := some 23) (v := .pointer (some ⟨qb, 0, none⟩)) rfl rfl (by kernel_rfl) (by kernel_rfl) (by kernel_rfl) (fun _ _ _ h => h) (by decide) (Or.inl ⟨by rfl, fun w' _ => by go_simp⟩) (Or.inr HC.out) ?_
     simp only [Act.put, aS, aZ, aC]
     refine takeP (i := 2) (dst := some 24) (v := .pointer (some ⟨qb, 0, none⟩)) rfl rfl (by kernel_rfl) (by kernel_rfl) (by kernel_rfl) (fun _ _ _ h => h) (by decide) (Or.inl ⟨by rfl, fun w' _ => by go_simp⟩) (Or.inr HC.out) ?_
     simp only [Act.put, aS, aZ, aC]
     refine takeP (i := 3) (dst := some 25) (v := .pointer (some ⟨qb, 13, none⟩)) rfl rfl (by kernel_rfl) (by kernel_rfl) (by kernel_rfl) (fun _ _ _ h => h) (by decide) (Or.inl ⟨by rfl, fun w' _ => by go_simp⟩) (Or.inr HC.out) ?_
     simp only [Act.put, aS, aZ, aC]
     refine takeD (i := 4) (dst := some 26) (v := .slice AA k ac) rfl rfl (by kernel_rfl) (by kernel_rfl) (by kernel_rfl) (fun _ _ _ h => h) (by decide) (by kernel_rfl) (by kernel_rfl) (Or.inl ⟨by rfl, fun w' h => by go_simp⟩) HC.out ?_
     simp only [Act.put, aS, aZ, aC]
     refine takeP (i := 5) (dst := some 27) (v := .pointer (some ⟨rb, 0, none⟩)) rfl rfl (by kernel_rfl) (by kernel_rfl) (by kernel_rfl) (fun _ _ _ h => h) (by decide) (Or.inl ⟨by rfl, fun w' _ => by go_simp⟩) (Or.inr HC.out) ?_
     simp only [Act.put, aS, aZ, aC]
     refine oneD (i := 6) (by kernel_rfl) (wpOp_returnsD (d := some 28) rfl rfl (by rfl) (f := 166) (args := #[.pointer (some ⟨rb, 0, none⟩)]) (by go_simp) T9.out ?_)
     rintro e wy ⟨v, rfl, ⟨a, rfl, hsa, hpa, hnz⟩, hry, hny⟩
     have HC2 := Lib.hid (only_cell hny HC.out HL.out.ne)
     refine ⟨_, rfl, Or.inr HC2.out, ?_⟩
     simp only [Act.put, aS, aZ, aC]
     unfold aggXV
     have HNZ := Lib.hid hnz
     have HPA := Lib.hid hpa
     have hbz := belowNew' wy (.cells #[.string a.what, .string a.of.op, .string a.of.name, .int .i64 a.of.val.type, .int .i64 a.of.val.n, .string a.of.val.s, .slice a.of.A a.of.args.length a.of.c, .int .i64 a.of.pos, .string a.name] 99)
     have hrow : (wy.alloc (.cells #[.string a.what, .string a.of.op, .string a.of.name, .int .i64 a.of.val.type, .int .i64 a.of.val.n, .string a.of.val.s, .slice a.of.A a.of.args.length a.of.c, .int .i64 a.of.pos, .string a.name] 99)).heap[wy.heap.size]? = some (.cells (aggXs [a]).toArray 99 (0, 0)) := heap_alloc_new wy _
     refine oneD (i := 7) (by kernel_rfl) (wpOp_valueD (d := some 29) rfl rfl (by rfl) (v := .slice (some ⟨wy.heap.size, 0, none⟩) 1 1) (w' := wy.alloc (.cells #[.string a.what, .string a.of.op, .string a.of.name, .int .i64 a.of.val.type, .int .i64 a.of.val.n, .string a.of.val.s, .slice a.of.A a.of.args.length a.of.c, .int .i64 a.of.pos, .string a.name] 99)) (by go_simp) ?_)
     generalize wy.alloc (.cells #[.string a.what, .string a.of.op, .string a.of.name, .int .i64 a.of.val.type, .int .i64 a.of.val.n, .string a.of.val.s, .slice a.of.A a.of.args.length a.of.c, .int .i64 a.of.pos, .string a.name] 99) = wz at hbz hrow ⊢
     have HC3 := Lib.hid ((hbz.cell (p := ⟨qb, _, none⟩) (World.block_lt_of_cell? wy _ HC2.out)).trans HC2.out)
     refine ⟨Or.inr HC3.out, ?_⟩
     simp only [Act.put, aS, aZ, aC]
     refine oneD (i := 8) (by kernel_rfl) (wpOp_append_one (d := some 30) aggSlice rfl rfl rfl (.tmp 26) (.tmp 29) rfl (v := .slice AA k ac) (n := k) (xs := aggXs al) (ys := [.string a.what, .string a.of.op, .string a.of.name, .int .i64 a.of.val.type, .int .i64 a.of.val.n, .string a.of.val.s, .slice a.of.A a.of.args.length a.of.c, .int .i64 a.of.pos, .string a.name]) (b := wy.heap.size) (c := 1) (H := wz.heap.size) rfl rfl (show wz.ownsRow w.heap.size 99 9 (.slice AA k ac) k (aggXs al) ∧ w.heap.size ≤ wz.heap.size from ⟨((HGX.out.to HL.out hny.drewL hry).to HL.out (.of_below hbz) (hry.keep hbz)).row, by have := HGX.out.only.size; have := hny.size; have := hbz.size; have e : wx.drew.heap.size = wx.heap.size := rfl; omega⟩).1 (show wz.ownsRow w.heap.size 99 9 (.slice AA k ac) k (aggXs al) ∧ w.heap.size ≤ wz.heap.size from ⟨((HGX.out.to HL.out hny.drewL hry).to HL.out (.of_below hbz) (hry.keep hbz)).row, by have := HGX.out.only.size; have := hny.size; have := hbz.size; have e : wx.drew.heap.size = wx.heap.size := rfl; omega⟩).2 rfl (fun q u hu => ?_) (aggs_cell' [a]) (by omega) rfl ?_)
     ·have hu' : (aggXs [a])[q]? = some u := hu
      have hcq : wz.cell? ⟨wy.heap.size, q, none⟩ = some u := by rw [cell_of_row _ _ _ _ _ _ hrow]; simpa using hu'
      rw [addr_add0]; exact hcq
     intro g cap wf hown hgr hat
     have HMORE := Lib.hid (HGX.out.more HL.out HNZ.out hny.drewL hry hsa hbz hgr hat hown)
     refine ⟨Or.inl (by kernel_rfl), ?_⟩
     simp only [Act.put, aS, aZ, aC]
     obtain ⟨qc, qf, ql⟩ := (HMORE.out).1
     refine takeP (i := 9) (dst := some 31) (v := .pointer (some ⟨qb, 0, none⟩)) rfl rfl (by kernel_rfl) (by kernel_rfl) (by kernel_rfl) (fun _ _ _ h => h) (by decide) (Or.inl ⟨by rfl, fun w' _ => by go_simp⟩) (Or.inl (by kernel_rfl)) ?_
     simp only [Act.put, aS, aZ, aC]
     refine takeP (i := 10) (dst := some 32) (v := .pointer (some ⟨qb, 13, none⟩)) rfl rfl (by kernel_rfl) (by kernel_rfl) (by kernel_rfl) (fun _ _ _ h => h) (by decide) (Or.inl ⟨by rfl, fun w' _ => by go_simp⟩) (Or.inl (by kernel_rfl)) ?_
     simp only [Act.put, aS, aZ, aC]
     refine oneD (i := 11) (by kernel_rfl) (wpOp_skip rfl (by rfl) (w' := wf.setCell ⟨qb, 13, none⟩ (.slice (some ⟨g, 0, none⟩) (k + 1) cap)) (by go_simp) ?_)
     refine ⟨Or.inl (by kernel_rfl), ?_⟩
     simp only [Act.put]
     refine doneD (by kernel_rfl) ?_ _
     generalize wf.setCell ⟨qb, 13, none⟩ (.slice (some ⟨g, 0, none⟩) (k + 1) cap) = wg at HMORE ⊢
     clear qc qf ql
     have HJ2 := Lib.hid hry.le
     clear hown hgr hat hbz hrow hry hny hsa hpa hnz HC HC2 HC3 T9 HNZ hkl
     go_wp2_with fail
     go_roundw
     case rel =>
      (repeat apply Exists.intro)
      exact ⟨⟨k + 1, j3, f', _, _, HMORE.out.2, by have := HFX.out; have := HGT2.out; omega, by have := HFX.out; have := HGT2.out; omega, by rw [← HGQ2.out, ← HPA.out, List.map_append]; rfl⟩, rfl⟩
     case measure =>
      rw [HMORE.out.2.rd.idx, HIX.out]
      have := HFX.out
      have := HGT2.out
      omega
   | false =>
    have HR2 := Lib.hid (show .ok ({ zeroQ with aggs := al.map aggP }, j2) = r by rw [← HR.out, ← HGQ.out]; exact (if_neg (by decide)).symm)
    go_wp2_with fail
    refine (T4.out).mono ?_
    rintro e' wx ⟨rfl, hrx, hnx⟩
    have hrx2 : RdAt T E wx rb A c j2 := hrx
    have HGX := Lib.hid (HG.out.to HL.out hnx hrx2)
    clear hrx hrx2 hnx T4
    go_wp2_with fail
    go_ret
    rw [← HR2.out]
    exact ⟨_, rfl, HGX.out.says, HGX.out.rd, HGX.out.only⟩
end Go.Proofs.YtpbbkpfaphjdoaaGreatDoor
