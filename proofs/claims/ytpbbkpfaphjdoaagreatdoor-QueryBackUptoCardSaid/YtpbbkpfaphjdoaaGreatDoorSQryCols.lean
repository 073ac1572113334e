/- query.items, walked, where expressions stand. -/
import Derived.Test.YtpbbkpfaphjdoaaGreatDoorSQryAggs
namespace Go.Proofs.YtpbbkpfaphjdoaaGreatDoor
open Go.ChangeShapes Go.WideShapes Go.ChangeAt Go.RowKit
theorem own_put {w : World} {B e size g n cap : Nat} {xs : List Value} (h : w.ownsRow B e size (.slice (some ⟨g, 0, none⟩) n cap) n xs) (o : Nat) (vs : List Value) : (putAll w g o vs).ownsRow B e size (.slice (some ⟨g, 0, none⟩) n cap) n (setAll xs o vs) := by
 refine ⟨by rw [setAll_len]; exact h.1, ?_⟩
 rcases h.2 with ⟨e, _⟩ | ⟨g', cap', cur, e, h1, h2, h3, h4, h5, h6⟩
 ·cases e
 ·injection e with e _ e3
  injection e with e
  injection e with e _
  subst e e3
  obtain ⟨cs, k1, k2⟩ := putAll_same vs w g o _ _ h2
  refine Or.inr ⟨g, cap, cs, rfl, h1, k1, h3, h4, ?_, ?_⟩
  ·rw [← Array.length_toList, k2, setAll_len]
   exact h5
  ·rw [k2, setAll_take, h6]
theorem exs_last (ys : List Ex) (y : Ex) (zs : List Value) (hz : zs.length = 7) : setAll (exsCells ys ++ zs) (ys.length * 7) (exCells y) = exsCells (ys ++ [y]) := by
 have h1 := setAll_app (exsCells ys) zs 0 (exCells y)
 rw [Nat.zero_add, exsCells_length] at h1
 have h2 := setAll_here (exCells y) zs [] hz
 rw [List.append_nil, List.append_nil] at h2
 rw [h1, h2]
 simp [exsCells]
structure ColsAt (T : List Tok) (E rb qb : Nat) (A : Option Addr) (c : Nat) (w0 wr : World) (k kn j : Nat) (vc vn : Value) (ys : List Ex) (ns : List ByteArray) : Prop where
 lenc : ys.length = k
 lenn : ns.length = kn
 rowc : wr.ownsRow w0.heap.size 26 7 vc k (exsCells ys)
 rown : wr.ownsRow w0.heap.size 9 1 vn kn (strCells ns)
 ne : ∀ b, vc.ownBlock = some b → vn.ownBlock ≠ some b
 q : RowL wr qb 30 (qL ⟨#[]⟩ zeroE vc vn (.slice none 0 0) 0 0 (.slice none 0 0))
 rd : RdAt T E wr rb A c j
 only : Only (fun b => b = rb ∨ b = qb) w0 wr
 sz : ∀ s ∈ ns, s.size ≤ 400
 parts : ∀ y ∈ ys, SeesS (fun b => (w0.heap.size ≤ b ∧ vc.ownBlock ≠ some b) ∧ vn.ownBlock ≠ some b) wr y
section
variable {T : List Tok} {E rb qb : Nat} {A : Option Addr} {c : Nat} {w0 wr : World} {k kn j : Nat} {vc vn : Value} {ys : List Ex} {ns : List ByteArray}
theorem ColsAt.to (h : ColsAt T E rb qb A c w0 wr k kn j vc vn ys ns) (hL : Lies T A rb qb w0) {w' : World} {j' : Nat} (ho : Only (fun b => b = rb) wr w') (hr : RdAt T E w' rb A c j') : ColsAt T E rb qb A c w0 w' k kn j' vc vn ys ns :=
 ⟨h.lenc, h.lenn, ho.own h.rowc (fun b hb e => by have := (h.rowc.lt b hb).1; have e : b = rb := e; have := hL.rd; omega), ho.own h.rown (fun b hb e => by have := (h.rown.lt b hb).1; have e : b = rb := e; have := hL.rd; omega), h.ne, h.q.only ho hL.ne, hr, h.only.trans (ho.mono (fun _ e => Or.inl e)), h.sz, fun a ha => (h.parts a ha).keep (alike_only2 ho (fun b hb e => by have e : b = rb := e; have := hb.1.1; have := hL.rd; omega))⟩
theorem ColsAt.moreN (h : ColsAt T E rb qb A c w0 wr k kn j vc vn ys ns) (hL : Lies T A rb qb w0) {s : ByteArray} (hs : s.size ≤ 400) {wy wz wf : World} {j2 g cap : Nat}
  (ho : Only (fun b => b = rb) wr wy) (hr : RdAt T E wy rb A c j2) (hb : Below wy.heap.size wy wz) (hgr : wz.grownBy wf vn.ownBlock) (hat : vn.ownBlock = some g ∨ g = wz.heap.size) (hown : wf.ownsRow w0.heap.size 9 1 (.slice (some ⟨g, 0, none⟩) (kn + 1) cap) (kn + 1) (strCells ns ++ [.string s])) :
  (wf.cell? ⟨qb, 9, none⟩ = some vn ∧ wf.frozen? ⟨qb, 9, none⟩ = false ∧ qb < wf.heap.size) ∧ ColsAt T E rb qb A c w0 (wf.setCell ⟨qb, 9, none⟩ (.slice (some ⟨g, 0, none⟩) (kn + 1) cap)) k (kn + 1) j2 vc (.slice (some ⟨g, 0, none⟩) (kn + 1) cap) ys (ns ++ [s]) := by
 obtain ⟨h1, h2, h3, h4⟩ := grown_beside hL h.rown ho hr h.only hb hgr hown 9 (.slice (some ⟨g, 0, none⟩) (kn + 1) cap)
 have hq := h4 _ _ h.q
 have hs1 := ho.size
 have hs2 := hb.size
 have ho1 : Only (fun b => vn.ownBlock = some b) wz wf := Only.of_grown hgr (fun k hk => hk.symm)
 refine ⟨⟨hq.cell rfl, hq.free 9, hq.lt⟩, ⟨h.lenc, by rw [List.length_append, h.lenn]; rfl, ?_, by rw [strCells_snoc']; exact h1, fun b hb e => ?_, hq.set 9 _, h2, h3, fun u hu => ?_, fun u hu => ?_⟩⟩
 ·have r1 := ((h.to hL ho hr).to hL (.of_below hb) (hr.keep hb)).rowc
  exact own_off (ho1.own r1 (fun b hb e => h.ne b hb e)) hL.q _ _
 ·injection e with e
  have e : g = b := e
  subst e
  rcases hat with e | e
  ·exact h.ne _ hb e
  ·have := (h.rowc.lt _ hb).2; omega
 ·rcases List.mem_append.1 hu with hu | hu
  ·exact h.sz u hu
  ·simp at hu; subst hu; exact hs
 ·exact (parts_more hL h.rown (fun b => vc.ownBlock ≠ some b) (fun b hb e => by have := (h.rowc.lt b e).2; omega) ho h.only.size hb hgr hat (Or.inl ((h.parts u hu).mono (fun b hb => ⟨⟨hb.1.1, hb.2⟩, hb.1.2⟩))) _ _).mono (fun b hb => ⟨⟨hb.1.1, hb.2⟩, hb.1.2⟩)
theorem ColsAt.moreC (h : ColsAt T E rb qb A c w0 wr k kn j vc vn ys ns) (hL : Lies T A rb qb w0) {y : Ex} {wz wf : World} {j2 g cap : Nat} {zs : List Value} (hz : zs.length = 7)
  (ho : Only (fun b => b = rb) wr wz) (hr : RdAt T E wz rb A c j2) (hy : SeesS (fun b => wr.heap.size ≤ b) wz y) (hgr : wz.grownBy wf vc.ownBlock) (hat : vc.ownBlock = some g ∨ g = wz.heap.size) (hown : wf.ownsRow w0.heap.size 26 7 (.slice (some ⟨g, 0, none⟩) (k + 1) cap) (k + 1) (exsCells ys ++ zs)) :
  (∀ j u, zs[j]? = some u → wf.cell? ⟨g, k * 7 + j, none⟩ = some u) ∧ (∃ cur, wf.heap[g]? = some (.cells cur 26 (0, 0))) ∧ g ≠ qb ∧ RowL wf qb 30 (qL ⟨#[]⟩ zeroE vc vn (.slice none 0 0) 0 0 (.slice none 0 0)) ∧
  ∀ wg, wg = (putAll wf g (k * 7) (exCells y)).setCell ⟨qb, 8, none⟩ (.slice (some ⟨g, 0, none⟩) (k + 1) cap) ∨ wg = putAll (wf.setCell ⟨qb, 8, none⟩ (.slice (some ⟨g, 0, none⟩) (k + 1) cap)) g (k * 7) (exCells y) → ColsAt T E rb qb A c w0 wg (k + 1) kn j2 (.slice (some ⟨g, 0, none⟩) (k + 1) cap) vn (ys ++ [y]) ns := by
 have hk := h.lenc
 have hs1 := ho.size
 have hs0 := h.only.size
 have hlt : ∀ b, vc.ownBlock = some b → w0.heap.size ≤ b ∧ b < wr.heap.size := fun b e => h.rowc.lt b e
 have h1 : Only (fun b => vc.ownBlock = some b) wz wf := Only.of_grown hgr (fun k hk => hk.symm)
 have hz1 := h.to hL ho hr
 have hgb : w0.heap.size ≤ g := by rcases hat with e | e; exact (hlt g e).1; omega
 have hq : RowL wf qb 30 (qL ⟨#[]⟩ zeroE vc vn (.slice none 0 0) 0 0 (.slice none 0 0)) := hz1.q.only h1 (fun e => by have := (hlt _ e).1; have := hL.q; omega)
 have hgq : g ≠ qb := by have := hL.q; omega
 have hcell : ∀ j u, zs[j]? = some u → wf.cell? ⟨g, k * 7 + j, none⟩ = some u := fun j u hu => by
  have := hown.cells (g := g) rfl (k * 7 + j) u (by rw [List.getElem?_append_right (by rw [exsCells_length, hk]; omega), exsCells_length, hk, Nat.add_sub_cancel_left]; exact hu)
  rwa [addr_add0] at this
 have hrowg : ∃ cur, wf.heap[g]? = some (.cells cur 26 (0, 0)) := by
  rcases hown.2 with ⟨e, _⟩ | ⟨g', cap', cur, e, _, h2, _⟩
  ·cases e
  ·injection e with e _ _
   injection e with e
   injection e with e _
   subst e
   exact ⟨cur, h2⟩
 obtain ⟨cur, hcur⟩ := hrowg
 refine ⟨hcell, ⟨cur, hcur⟩, hgq, hq, fun wg hw => ?_⟩
 have key : wg.ownsRow w0.heap.size 26 7 (.slice (some ⟨g, 0, none⟩) (k + 1) cap) (k + 1) (exsCells (ys ++ [y])) ∧ RowL wg qb 30 (qL ⟨#[]⟩ zeroE (.slice (some ⟨g, 0, none⟩) (k + 1) cap) vn (.slice none 0 0) 0 0 (.slice none 0 0)) ∧ Only (fun b => b = g ∨ b = qb) wf wg := by
  rcases hw with rfl | rfl
  ·have r1 := own_put hown (k * 7) (exCells y)
   rw [← hk, exs_last ys y zs hz, hk] at r1
   have o1 := putAll_only (exCells y) wf g (k * 7)
   exact ⟨own_off r1 hL.q _ _, (hq.only o1 (fun e => hgq e.symm)).set 8 _, (o1.mono (fun b e => Or.inl e)).trans ((putAll_only [.slice (some ⟨g, 0, none⟩) (k + 1) cap] _ qb 8).mono (fun b e => Or.inr e))⟩
  ·have r1 := own_put (own_off hown hL.q 8 (.slice (some ⟨g, 0, none⟩) (k + 1) cap)) (k * 7) (exCells y)
   rw [← hk, exs_last ys y zs hz, hk] at r1
   have o1 := putAll_only (exCells y) (wf.setCell ⟨qb, 8, none⟩ (.slice (some ⟨g, 0, none⟩) (k + 1) cap)) g (k * 7)
   exact ⟨r1, (hq.set 8 _).only o1 (fun e => hgq e.symm), ((putAll_only [.slice (some ⟨g, 0, none⟩) (k + 1) cap] wf qb 8).mono (fun b e => Or.inr e)).trans (o1.mono (fun b e => Or.inl e))⟩
 obtain ⟨k1, k2, k3⟩ := key
 have hgn : ∀ b, b < wz.heap.size → vc.ownBlock ≠ some b → b ≠ g := fun b hb hv e => by
  subst e
  rcases hat with e | e
  ·exact hv e
  ·omega
 have k3' : Only (fun b => vc.ownBlock = some b ∨ b = qb ∨ wz.heap.size ≤ b) wz wg := (h1.mono (fun b e => Or.inl e)).trans (k3.mono (fun b e => by
  rcases e with rfl | rfl
  ·rcases hat with e | e
   ·exact Or.inl e
   ·exact Or.inr (Or.inr (by omega))
  ·exact Or.inr (Or.inl rfl)))
 refine ⟨by rw [List.length_append, hk]; rfl, h.lenn, k1, ?_, fun b hb e => ?_, k2, ?_, ?_, h.sz, fun z hz => ?_⟩
 ·refine k3'.own hz1.rown (fun b hb e => ?_)
  have hb1 := h.rown.lt b hb
  rcases e with e | e | e
  ·exact h.ne b e hb
  ·have := hL.q; have e : b = qb := e; omega
  ·omega
 ·injection hb with hb
  have hb : g = b := hb
  subst hb
  rcases hat with e2 | e2
  ·exact h.ne _ e2 e
  ·have := (h.rown.lt _ e).2; omega
 ·exact hr.other2 k3' (fun e => by rcases e with e | e | e; have := (hlt _ e).1; have := hL.rd; omega; exact hL.ne e.symm; have := hL.rd; omega) (fun h0 ad ea e => by have h5 := hL.old h0 ad ea; rcases e with e | e | e; have := (hlt _ e).1; omega; exact hL.toks h0 ad ea e; omega)
 ·exact (hz1.only.then_or k3' (fun b e => by
   rcases e with e | e | e
   ·exact Or.inr (hlt b e).1
   ·exact Or.inl (Or.inr e)
   ·exact Or.inr (by omega)))
 ·have kz : SeesS (fun b => ((w0.heap.size ≤ b ∧ vc.ownBlock ≠ some b) ∧ vn.ownBlock ≠ some b) ∧ b < wz.heap.size) wz z := by
   rcases List.mem_append.1 hz with hz | hz
   ·exact seesS_lt2 (hz1.parts z hz)
   ·simp at hz
    subst hz
    exact (seesS_lt2 hy).mono (fun b hb => ⟨⟨⟨by have := hb.1; omega, fun e => by have := (hlt b e).2; have := hb.1; omega⟩, fun e => by have := (h.rown.lt b e).2; have := hb.1; omega⟩, hb.2⟩)
  refine (kz.keep (alike_only2 k3' (fun b hb e => by
   rcases e with e | e | e
   ·exact hb.1.1.2 e
   ·have e : b = qb := e; have := hb.1.1.1; have := hL.q; omega
   ·have := hb.2; omega))).mono (fun b hb => ⟨⟨hb.1.1.1, fun e => ?_⟩, hb.1.2⟩)
  injection e with e
  have e : g = b := e
  exact hgn b hb.2 hb.1.1.2 e.symm
end
theorem ColsAt.says {T : List Tok} {E rb qb : Nat} {A : Option Addr} {c : Nat} {w0 wr : World} {k j : Nat} {vc vn : Value} {ys : List Ex} {ns : List ByteArray} (h : ColsAt T E rb qb A c w0 wr k k j vc vn ys ns) : ItemsV w0 qb false { zeroQ with cols := strips ys, names := ns.map (·.data.toList) } (.bool false) wr := by
 obtain ⟨CA, cc, rfl⟩ := own_shape h.rowc
 obtain ⟨NA, nc, rfl⟩ := own_shape h.rown
 obtain ⟨CA', cc', e5, hs5⟩ := SeesIn.of_own (S := fun b => w0.heap.size ≤ b) h.rowc (fun b h _ => h)
 injection e5 with e5 _ e6
 subst e5 e6
 obtain ⟨NA', nc', e5, hs6⟩ := SeesIn.of_own (S := fun b => w0.heap.size ≤ b) h.rown (fun b h _ => h)
 injection e5 with e5 _ e6
 subst e5 e6
 have hk : ys.length = k := h.lenc
 have hn : ns.length = k := h.lenn
 have hq := h.q
 rw [← hn] at hs6
 rw [← hk] at hs5
 have hz := zeroQX_sees (fun b => w0.heap.size ≤ b) wr
 refine ⟨rfl, { zeroQX with CA := CA, cc := cc, cols := ys, NA := NA, nc := nc, names := ns }, ?_, ⟨hz.wher, hs5, fun y hy => (h.parts y hy).mono (fun b hb => hb.1.1), hs6, hz.group, hz.aggs, hz.aggsAt, ⟨hz.sizes.1, fun s hs => ?_, hz.sizes.2.2⟩, hz.nums⟩, rfl, rfl, rfl, rfl⟩
 ·unfold qxL
  rw [show ({ zeroQX with CA := CA, cc := cc, cols := ys, NA := NA, nc := nc, names := ns } : QX).cols.length = k from hk, show ({ zeroQX with CA := CA, cc := cc, cols := ys, NA := NA, nc := nc, names := ns } : QX).names.length = k from hn]
  exact hq
 ·have := h.sz s hs
  unfold maxLen
  omega
theorem box_zs (w : World) : ∃ w0, w.alloc (.cells #[.string ⟨#[]⟩, .string ⟨#[]⟩, .int .i64 0, .int .i64 0, .string ⟨#[]⟩, .slice none 0 0, .int .i64 0] 26) = w0 ∧ w0.heap[w.heap.size]? = some (.cells (exsCells [zeroE]).toArray 26 (0, 0)) ∧ Below w.heap.size w w0 :=
 ⟨_, rfl, heap_alloc_new w _, belowNew' _ _⟩
set_option maxHeartbeats 16000000 in
set_option maxRecDepth 100000 in
theorem items_cols {T : List Tok} {E : Nat} (hW : Words T E) {X : Nat → PR} (hX : Oracle T E X) (j : Nat) (wB w : World) (rb qb : Nat) (A : Option Addr) (c : Nat) (hR : RdAt T E w rb A c j) (hE : Env wB w rb) (hA : AggsT wB) (hqB : wB.heap.size ≤ qb) (hL : Lies T A rb qb w) (hq : RowL w qb 30 (qxL zeroQX)) (hag : isAg T j = false) :
  Calls Tryz.prog 106 #[.pointer (some ⟨rb, 0, none⟩), .pointer (some ⟨qb, 0, none⟩)] w (QSays2 T E rb qb A c w (ItemsV w qb false) (colsQ T E X (T.length + 1) zeroQ j)) := by
 have hmf : ∀ (fn : Fn) (first cap : Array Value) (w : World), (Instr.makeFunc fn first cap).run Tryz.prog w = .ok (.func fn first cap) w := fun _ _ _ _ => rfl
 obtain ⟨r, hr⟩ : ∃ r, colsQ T E X (T.length + 1) zeroQ j = r := ⟨_, rfl⟩
 have T1 := Lib.hid (anyIs hR hW aggsB _ 4 4 (hA.keep hE.below))
 rw [isAg_B, hag] at T1
 have HWW := Lib.hid hW
 have HXX := Lib.hid hX
 have HR := Lib.hid hr
 have HE := Lib.hid hE
 have HQB := Lib.hid hqB
 have HL := Lib.hid hL
 have HG0 := Lib.hid (show ColsAt T E rb qb A c w w 0 0 j (.slice none 0 0) (.slice none 0 0) [] [] from ⟨rfl, rfl, World.ownsRow_nil _ _ _ _, World.ownsRow_nil _ _ _ _, (fun b h => by cases h), hq, hR, .refl _ _, (fun a h => by cases h), (fun a h => by cases h)⟩)
 rw [hr]
 clear hW hX hR hE hA hL hq hr hqB hag
 go_enter Tryz.func106, Tryz.ntmps106
 go_wp2_with fail
 refine (T1.out).mono ?_
 rintro e' w2 ⟨rfl, hb2⟩
 have HG2 := Lib.hid (HG0.out.to HL.out (.of_below hb2) (HG0.out.rd.keep hb2))
 clear hb2 T1 HG0
 go_wp2_with fail
 go_loopw [] (fun wr => ∃ (k j2 f : Nat) (vc vn : Value) (ys : List Ex) (ns : List ByteArray), ColsAt T E rb qb A c w wr k k j2 vc vn ys ns ∧ T.length + 1 ≤ j2 + f ∧ k ≤ j2 ∧ colsQ T E X f { zeroQ with cols := strips ys, names := ns.map (·.data.toList) } j2 = r) (fun wr => T.length + 1 - rdIdx wr rb)
 case atStart => exact ⟨0, j, T.length + 1, _, _, [], [], HG2.out, by omega, Nat.zero_le _, HR.out⟩
 case round =>
  obtain ⟨k, j2, f, vc, vn, ys, ns, hg, hf, hkj, hl⟩ := hrel
  have HG := Lib.hid hg
  have HF := Lib.hid (show T.length + 1 ≤ j2 + f ∧ k ≤ j2 ∧ j2 ≤ T.length ∧ k ≤ 400 from ⟨hf, hkj, hg.rd.le, by have := hg.rd.le; have := HWW.out.len; omega⟩)
  have HIX := Lib.hid hg.rd.idx
  obtain ⟨f', rfl⟩ : ∃ f', f = f' + 1 := ⟨f - 1, by have := hg.rd.le; omega⟩
  have HGQ := Lib.hid (show ((X j2).bind fun x => (asQ T E x.2).bind fun s => if isT T s.2 wComma = true then colsQ T E X f' { zeroQ with cols := strips ys ++ [x.1], names := ns.map (·.data.toList) ++ [s.1] } (s.2 + 1) else .ok ({ zeroQ with cols := strips ys ++ [x.1], names := ns.map (·.data.toList) ++ [s.1] }, s.2)) = r from hl)
  clear hg hf hkj hl HG2 HR
  have HEX := Lib.hid (HE.out.two HG.out.only HQB.out)
  have T9 := Lib.hid (fun (w' : World) (hb : Below wr.heap.size wr w') => rdExpr_any HWW.out (HXX.out j2 HF.out.2.2.1) wB w' rb A c (HG.out.rd.keep hb) (HEX.out.keep hb))
  obtain ⟨CA, cc, rfl⟩ := own_shape HG.out.rowc
  have HC := Lib.hid (show wr.drew.cell? ⟨qb, 8, none⟩ = some (.slice CA k cc) from HG.out.q.cell rfl)
  have hkl : k ≤ 400 := HF.out.2.2.2
  cases hx : X j2 with
  | error ke =>
   rw [hx] at T9 HGQ
   clear hx
   go_wp2_with fail
   refine regionD (fun w' => w'.cell? ⟨qb, 8, none⟩ = some (.slice CA k cc)) 8 (by kernel_rfl) ?_
   refine takeP (i := 0) (dst := some 33) (v := .pointer (some ⟨qb, 0, none⟩)) rfl rfl (by kernel_rfl) (by kernel_rfl) (by kernel_rfl) (fun _ _ _ h => h) (by decide) (Or.inl ⟨by rfl, fun w' _ => by go_simp⟩) (Or.inr HC.out) ?_
   simp only [Act.put, aS, aZ, aC]
   refine takeP (i := 1) (dst := some 34) (v := .pointer (some ⟨qb, 0, none⟩)) rfl rfl (by kernel_rfl) (by kernel_rfl) (by kernel_rfl) (fun _ _ _ h => h) (by decide) (Or.inl ⟨by rfl, fun w' _ => by go_simp⟩) (Or.inr HC.out) ?_
   simp only [Act.put, aS, aZ, aC]
   refine takeP (i := 2) (dst := some 35) (v := .pointer (some ⟨qb, 8, none⟩)) rfl rfl (by kernel_rfl) (by kernel_rfl) (by kernel_rfl) (fun _ _ _ h => h) (by decide) (Or.inl ⟨by rfl, fun w' _ => by go_simp⟩) (Or.inr HC.out) ?_
   simp only [Act.put, aS, aZ, aC]
   refine takeD (i := 3) (dst := some 36) (v := .slice CA k cc) rfl rfl (by kernel_rfl) (by kernel_rfl) (by kernel_rfl) (fun _ _ _ h => h) (by decide) (by kernel_rfl) (by kernel_rfl) (Or.inl ⟨by rfl, fun w' h => by go_simp⟩) HC.out ?_
   simp only [Act.put, aS, aZ, aC]
   refine takeP (i := 4) (dst := some 37) (v := .pointer (some ⟨rb, 0, none⟩)) rfl rfl (by kernel_rfl) (by kernel_rfl) (by kernel_rfl) (fun _ _ _ h => h) (by decide) (Or.inl ⟨by rfl, fun w' _ => by go_simp⟩) (Or.inr HC.out) ?_
   simp only [Act.put, aS, aZ, aC]
   refine takeP (i := 6) (dst := some 39) (v := .int .i64 k) rfl rfl (by kernel_rfl) (by kernel_rfl) (by kernel_rfl) (fun _ _ _ h => h) (by decide) (Or.inl ⟨by rfl, fun w' _ => by go_simp⟩) (Or.inr HC.out) ?_
   simp only [Act.put, aS, aZ, aC]
   refine allD (rs := [5, 7]) (by kernel_rfl) (by simp) (fun jj hj => ?_)
   rcases (by simpa using hj : jj = 5 ∨ jj = 7) with rfl | rfl
   ·exact wpOp_panics rfl (by rfl) (f := 82) (args := #[.pointer (some ⟨rb, 0, none⟩)]) (by go_simp) ((T9.out _ (Below.refl _ _).drew).mono fun e w' ⟨h1, h2⟩ => ⟨h1, h2⟩) (fun wy hny => ⟨rfl, by rw [← HGQ.out]; exact ⟨rfl, HG.out.only.trans ((hny.drewL).mono (fun k e => Or.inl e))⟩⟩)
   ·skip
    obtain ⟨wz, hwz, hrow, hbz⟩ := box_zs wr.drew
    refine wpOp_valueD (d := some 40) rfl rfl (by rfl) (v := .slice (some ⟨wr.drew.heap.size, 0, none⟩) 1 1) (w' := wr.drew.alloc (.cells #[.string ⟨#[]⟩, .string ⟨#[]⟩, .int .i64 0, .int .i64 0, .string ⟨#[]⟩, .slice none 0 0, .int .i64 0] 26)) (by go_simp) ?_
    rw [hwz]
    clear hwz
    have HC3 := Lib.hid ((hbz.cell (p := ⟨qb, _, none⟩) (World.block_lt_of_cell? wr.drew _ HC.out)).trans HC.out)
    refine ⟨Or.inr HC3.out, ?_⟩
    simp only [Act.put, aS, aZ, aC]
    have hbd : Below wr.heap.size wr wz := ⟨hbz.os, hbz.tape, hbz.output, hbz.size, hbz.block⟩
    exact oneD (i := 5) (by kernel_rfl) (wpOp_panics rfl (by rfl) (f := 82) (args := #[.pointer (some ⟨rb, 0, none⟩)]) (by go_simp) ((T9.out _ hbd).mono fun e w' ⟨h1, h2⟩ => ⟨h1, h2⟩) (fun wy hny => ⟨rfl, by rw [← HGQ.out]; exact ⟨rfl, HG.out.only.trans (((Only.of_below hbd).trans hny).mono (fun k e => Or.inl e))⟩⟩))
  | ok pp =>
   obtain ⟨x, j3⟩ := pp
   have HJ3 := Lib.hid (oracle_gain HXX.out HF.out.2.2.1 hx)
   rw [hx] at T9
   have HGQ2 := Lib.hid (show ((asQ T E j3).bind fun s => if isT T s.2 wComma = true then colsQ T E X f' { zeroQ with cols := strips ys ++ [x], names := ns.map (·.data.toList) ++ [s.1] } (s.2 + 1) else .ok ({ zeroQ with cols := strips ys ++ [x], names := ns.map (·.data.toList) ++ [s.1] }, s.2)) = r by rw [← HGQ.out, hx]; rfl)
   clear hx HGQ
   go_wp2_with fail
   go_cut [] from 33 to 60 (fun wx => ∃ (y : Ex) (g cap : Nat), ColsAt T E rb qb A c w wx (k + 1) k j3 (.slice (some ⟨g, 0, none⟩) (k + 1) cap) vn (ys ++ [y]) ns ∧ strip y = x)
   case first =>
    refine regionD (fun w' => w'.cell? ⟨qb, 8, none⟩ = some (.slice CA k cc)) 8 (by kernel_rfl) ?_
    refine takeP (i := 0) (dst := some 33) (v := .pointer (some ⟨qb, 0, none⟩)) rfl rfl (by kernel_rfl) (by kernel_rfl) (by kernel_rfl) (fun _ _ _ h => h) (by decide) (Or.inl ⟨by rfl, fun w' _ => by go_simp⟩) (Or.inr HC.out) ?_
    simp only [Act.put, aS, aZ, aC]
    refine takeP (i := 1) (dst := some 34) (v := .pointer (some ⟨qb, 0, none⟩)) rfl rfl (by kernel_rfl) (by kernel_rfl) (by kernel_rfl) (fun _ _ _ h => h) (by decide) (Or.inl ⟨by rfl, fun w' _ => by go_simp⟩) (Or.inr HC.out) ?_
    simp only [Act.put, aS, aZ, aC]
    refine takeP (i := 2) (dst := some 35) (v := .pointer (some ⟨qb, 8, none⟩)) rfl rfl (by kernel_rfl) (by kernel_rfl) (by kernel_rfl) (fun _ _ _ h => h) (by decide) (Or.inl ⟨by rfl, fun w' _ => by go_simp⟩) (Or.inr HC.out) ?_
    simp only [Act.put, aS, aZ, aC]
    refine takeD (i := 3) (dst := some 36) (v := .slice CA k cc) rfl rfl (by kernel_rfl) (by kernel_rfl) (by kernel_rfl) (fun _ _ _ h => h) (by decide) (by kernel_rfl) (by kernel_rfl) (Or.inl ⟨by rfl, fun w' h => by go_simp⟩) HC.out ?_
    simp only [Act.put, aS, aZ, aC]
    refine takeP (i := 4) (dst := some 37) (v := .pointer (some ⟨rb, 0, none⟩)) rfl rfl (by kernel_rfl) (by kernel_rfl) (by kernel_rfl) (fun _ _ _ h => h) (by decide) (Or.inl ⟨by rfl, fun w' _ => by go_simp⟩) (Or.inr HC.out) ?_
    simp only [Act.put, aS, aZ, aC]
    refine takeP (i := 6) (dst := some 39) (v := .int .i64 k) rfl rfl (by kernel_rfl) (by kernel_rfl) (by kernel_rfl) (fun _ _ _ h => h) (by decide) (Or.inl ⟨by rfl, fun w' _ => by go_simp⟩) (Or.inr HC.out) ?_
    simp only [Act.put, aS, aZ, aC]
    refine allD (rs := [5, 7]) (by kernel_rfl) (by simp) (fun jj hj => ?_)
    rcases (by simpa using hj : jj = 5 ∨ jj = 7) with rfl | rfl
    case' inl =>
     refine wpOp_returnsD (d := some 38) rfl rfl (by rfl) (f := 82) (args := #[.pointer (some ⟨rb, 0, none⟩)]) (by go_simp) (T9.out _ (Below.refl _ _).drew) ?_
     rintro e wy ⟨y, rfl, hsy, hst, hry, hny⟩
     have HC2 := Lib.hid (only_cell hny HC.out HL.out.ne)
     refine ⟨_, rfl, Or.inr HC2.out, ?_⟩
     simp only [Act.put, aS, aZ, aC]
     refine oneD (i := 7) (by kernel_rfl) ?_
     obtain ⟨wz, hwz, hrow, hbz⟩ := box_zs wy
     refine wpOp_valueD (d := some 40) rfl rfl (by rfl) (v := .slice (some ⟨wy.heap.size, 0, none⟩) 1 1) (w' := wy.alloc (.cells #[.string ⟨#[]⟩, .string ⟨#[]⟩, .int .i64 0, .int .i64 0, .string ⟨#[]⟩, .slice none 0 0, .int .i64 0] 26)) (by go_simp) ?_
     rw [hwz]
     clear hwz
     have HC3 := Lib.hid ((hbz.cell (p := ⟨qb, _, none⟩) (World.block_lt_of_cell? wy _ HC2.out)).trans HC2.out)
     refine ⟨Or.inr HC3.out, ?_⟩
     simp only [Act.put, aS, aZ, aC]
     have HN := Lib.hid (show Only (fun k => k = rb) wr wz from hny.drewL.trans (.of_below hbz))
     have HRD := Lib.hid (hry.keep hbz)
     have HSY := Lib.hid (show SeesS (fun b => wr.heap.size ≤ b) wz y from (show SeesS (fun b => wr.heap.size ≤ b) wy y from hsy).keep (.of_below hbz))
     have HST := Lib.hid hst
     have HROW := Lib.hid hrow
     clear hrow hbz hsy hst hry hny HC HC2
     generalize wy.heap.size = bz at *
     unfold exV
    case' inr =>
     obtain ⟨wz, hwz, hrow, hbz⟩ := box_zs wr.drew
     refine wpOp_valueD (d := some 40) rfl rfl (by rfl) (v := .slice (some ⟨wr.drew.heap.size, 0, none⟩) 1 1) (w' := wr.drew.alloc (.cells #[.string ⟨#[]⟩, .string ⟨#[]⟩, .int .i64 0, .int .i64 0, .string ⟨#[]⟩, .slice none 0 0, .int .i64 0] 26)) (by go_simp) ?_
     rw [hwz]
     clear hwz
     have HC2 := Lib.hid ((hbz.cell (p := ⟨qb, _, none⟩) (World.block_lt_of_cell? wr.drew _ HC.out)).trans HC.out)
     refine ⟨Or.inr HC2.out, ?_⟩
     simp only [Act.put, aS, aZ, aC]
     have hbd : Below wr.heap.size wr wz := ⟨hbz.os, hbz.tape, hbz.output, hbz.size, hbz.block⟩
     refine oneD (i := 5) (by kernel_rfl) (wpOp_returnsD (d := some 38) rfl rfl (by rfl) (f := 82) (args := #[.pointer (some ⟨rb, 0, none⟩)]) (by go_simp) (T9.out _ hbd) ?_)
     rintro e wy ⟨y, rfl, hsy, hst, hry, hny⟩
     have HC3 := Lib.hid (only_cell hny HC2.out HL.out.ne)
     refine ⟨_, rfl, Or.inr HC3.out, ?_⟩
     simp only [Act.put, aS, aZ, aC]
     have HN := Lib.hid (show Only (fun k => k = rb) wr wy from (Only.of_below hbd).trans hny)
     have HRD := Lib.hid hry
     have HSY := Lib.hid (show SeesS (fun b => wr.heap.size ≤ b) wy y from hsy.mono (fun b hb => Nat.le_trans hbd.size hb))
     have HST := Lib.hid hst
     have HROW := Lib.hid (show wy.heap[wr.drew.heap.size]? = some (.cells (exsCells [zeroE]).toArray 26 (0, 0)) from (hny.block _ (Array.getElem?_eq_some_iff.1 hrow).1 (fun e => by have e : wr.heap.size = rb := e; have := HG.out.rd.lt; omega)).trans hrow)
     clear hrow hbz hsy hst hry hny HC HC2 hbd
     generalize wr.drew.heap.size = bz at *
     clear wz
     generalize wy = wz at *
     unfold exV
    all_goals
     refine oneD (i := 8) (by kernel_rfl) (wpOp_append_one (d := some 41) exSlice rfl rfl rfl (.tmp 36) (.tmp 40) rfl (v := .slice CA k cc) (n := k) (xs := exsCells ys) (ys := [.string ⟨#[]⟩, .string ⟨#[]⟩, .int .i64 0, .int .i64 0, .string ⟨#[]⟩, .slice none 0 0, .int .i64 0]) (b := bz) (c := 1) (H := wz.heap.size) rfl rfl (HG.out.to HL.out HN.out HRD.out).rowc (by have := HG.out.only.size; have := HN.out.size; omega) rfl (fun q u hu => ?_) (exs_cell' [zeroE]) (by omega) rfl ?_)
     ·have hu' : (exsCells [zeroE])[q]? = some u := hu
      have hcq : wz.cell? ⟨bz, q, none⟩ = some u := by rw [cell_of_row _ _ _ _ _ _ HROW.out]; simpa using hu'
      rw [addr_add0]; exact hcq
     intro g cap wf hown hgr hat
     obtain ⟨hz, ⟨cur, hcur⟩, hgq, hqq, hm⟩ := HG.out.moreC HL.out (y := y) (zs := [.string ⟨#[]⟩, .string ⟨#[]⟩, .int .i64 0, .int .i64 0, .string ⟨#[]⟩, .slice none 0 0, .int .i64 0]) rfl HN.out HRD.out HSY.out hgr hat hown
     have HMORE := Lib.hid hm
     have HCUR := Lib.hid hcur
     have HZ := Lib.hid hz
     have HGQ := Lib.hid hgq
     have HQQ := Lib.hid hqq
     refine ⟨Or.inl (by kernel_rfl), ?_⟩
     simp only [Act.put, aS, aZ, aC]
     clear hown hgr hat hz hqq hm hgq hcur
     refine takeP (i := 9) (dst := some 42) (v := .pointer (some ⟨g, k * 7, none⟩)) rfl rfl (by kernel_rfl) (by kernel_rfl) (by kernel_rfl) (fun _ _ _ h => h) (by decide) (Or.inl ⟨by rfl, fun w' _ => by go_simp; intro h; omega⟩) (Or.inl (by kernel_rfl)) ?_
     simp only [Act.put, aS, aZ, aC]
     refine takeP (i := 11) (dst := some 43) (v := .pointer (some ⟨qb, 0, none⟩)) rfl rfl (by kernel_rfl) (by kernel_rfl) (by kernel_rfl) (fun _ _ _ h => h) (by decide) (Or.inl ⟨by rfl, fun w' _ => by go_simp⟩) (Or.inl (by kernel_rfl)) ?_
     simp only [Act.put, aS, aZ, aC]
     refine takeP (i := 12) (dst := some 44) (v := .pointer (some ⟨qb, 8, none⟩)) rfl rfl (by kernel_rfl) (by kernel_rfl) (by kernel_rfl) (fun _ _ _ h => h) (by decide) (Or.inl ⟨by rfl, fun w' _ => by go_simp⟩) (Or.inl (by kernel_rfl)) ?_
     simp only [Act.put, aS, aZ, aC]
     refine allD (rs := [10, 13]) (by kernel_rfl) (by simp) (fun jj hj => ?_)
     rcases (by simpa using hj : jj = 10 ∨ jj = 13) with rfl | rfl
     ·skip
      have z0 : wf.cell? ⟨g, k * 7, none⟩ = some (.string ⟨#[]⟩) := HZ.out 0 _ rfl
      have f0 : wf.frozen? ⟨g, k * 7, none⟩ = false := frozen_of_row _ _ _ _ _ HCUR.out
      have z1 : wf.cell? ⟨g, k * 7 + 1, none⟩ = some (.string ⟨#[]⟩) := HZ.out 1 _ rfl
      have f1 : wf.frozen? ⟨g, k * 7 + 1, none⟩ = false := frozen_of_row _ _ _ _ _ HCUR.out
      have z2 : wf.cell? ⟨g, k * 7 + 2, none⟩ = some (.int .i64 0) := HZ.out 2 _ rfl
      have f2 : wf.frozen? ⟨g, k * 7 + 2, none⟩ = false := frozen_of_row _ _ _ _ _ HCUR.out
      have z3 : wf.cell? ⟨g, k * 7 + 3, none⟩ = some (.int .i64 0) := HZ.out 3 _ rfl
      have f3 : wf.frozen? ⟨g, k * 7 + 3, none⟩ = false := frozen_of_row _ _ _ _ _ HCUR.out
      have z4 : wf.cell? ⟨g, k * 7 + 4, none⟩ = some (.string ⟨#[]⟩) := HZ.out 4 _ rfl
      have f4 : wf.frozen? ⟨g, k * 7 + 4, none⟩ = false := frozen_of_row _ _ _ _ _ HCUR.out
      have z5 : wf.cell? ⟨g, k * 7 + 5, none⟩ = some (.slice none 0 0) := HZ.out 5 _ rfl
      have f5 : wf.frozen? ⟨g, k * 7 + 5, none⟩ = false := frozen_of_row _ _ _ _ _ HCUR.out
      have z6 : wf.cell? ⟨g, k * 7 + 6, none⟩ = some (.int .i64 0) := HZ.out 6 _ rfl
      have f6 : wf.frozen? ⟨g, k * 7 + 6, none⟩ = false := frozen_of_row _ _ _ _ _ HCUR.out
      refine wpOp_skip rfl (by rfl) (w' := ((((((wf.setCell ⟨g, k * 7, none⟩ (.string y.op)).setCell ⟨g, k * 7 + 1, none⟩ (.string y.name)).setCell ⟨g, k * 7 + 2, none⟩ (.int .i64 y.val.type)).setCell ⟨g, k * 7 + 3, none⟩ (.int .i64 y.val.n)).setCell ⟨g, k * 7 + 4, none⟩ (.string y.val.s)).setCell ⟨g, k * 7 + 5, none⟩ (.slice y.A y.args.length y.c)).setCell ⟨g, k * 7 + 6, none⟩ (.int .i64 y.pos)) (by go_simp) ?_
      refine ⟨Or.inl (by kernel_rfl), ?_⟩
      simp only [Act.put]
      have hqe : RowL (((((((wf.setCell ⟨g, k * 7, none⟩ (.string y.op)).setCell ⟨g, k * 7 + 1, none⟩ (.string y.name)).setCell ⟨g, k * 7 + 2, none⟩ (.int .i64 y.val.type)).setCell ⟨g, k * 7 + 3, none⟩ (.int .i64 y.val.n)).setCell ⟨g, k * 7 + 4, none⟩ (.string y.val.s)).setCell ⟨g, k * 7 + 5, none⟩ (.slice y.A y.args.length y.c)).setCell ⟨g, k * 7 + 6, none⟩ (.int .i64 y.pos)) qb 30 (qL ⟨#[]⟩ zeroE (.slice CA k cc) vn (.slice none 0 0) 0 0 (.slice none 0 0)) := HQQ.out.only (putAll_only (exCells y) wf g (k * 7)) (fun e => HGQ.out e.symm)
      have HM2 := Lib.hid (HMORE.out ((((((((wf.setCell ⟨g, k * 7, none⟩ (.string y.op)).setCell ⟨g, k * 7 + 1, none⟩ (.string y.name)).setCell ⟨g, k * 7 + 2, none⟩ (.int .i64 y.val.type)).setCell ⟨g, k * 7 + 3, none⟩ (.int .i64 y.val.n)).setCell ⟨g, k * 7 + 4, none⟩ (.string y.val.s)).setCell ⟨g, k * 7 + 5, none⟩ (.slice y.A y.args.length y.c)).setCell ⟨g, k * 7 + 6, none⟩ (.int .i64 y.pos)).setCell ⟨qb, 8, none⟩ (.slice (some ⟨g, 0, none⟩) (k + 1) cap)) (Or.inl rfl))
      clear z0 z1 z2 z3 z4 z5 z6 f0 f1 f2 f3 f4 f5 f6 HMORE
      generalize ((((((wf.setCell ⟨g, k * 7, none⟩ (.string y.op)).setCell ⟨g, k * 7 + 1, none⟩ (.string y.name)).setCell ⟨g, k * 7 + 2, none⟩ (.int .i64 y.val.type)).setCell ⟨g, k * 7 + 3, none⟩ (.int .i64 y.val.n)).setCell ⟨g, k * 7 + 4, none⟩ (.string y.val.s)).setCell ⟨g, k * 7 + 5, none⟩ (.slice y.A y.args.length y.c)).setCell ⟨g, k * 7 + 6, none⟩ (.int .i64 y.pos) = wE at hqe HM2 ⊢
      have qc : wE.cell? ⟨qb, 8, none⟩ = some (.slice CA k cc) := hqe.cell rfl
      have qf := hqe.free 8
      have ql := hqe.lt
      clear hqe
      refine oneD (i := 13) (by kernel_rfl) (wpOp_skip rfl (by rfl) (w' := wE.setCell ⟨qb, 8, none⟩ (.slice (some ⟨g, 0, none⟩) (k + 1) cap)) (by go_simp) ?_)
      refine ⟨Or.inl (by kernel_rfl), ?_⟩
      simp only [Act.put]
      refine doneD (by kernel_rfl) ?_ _
      generalize wE.setCell ⟨qb, 8, none⟩ (.slice (some ⟨g, 0, none⟩) (k + 1) cap) = wg at HM2 ⊢
      clear qc qf ql
      go_wp2_with fail
      go_meet
      exact ⟨y, g, cap, HM2.out, HST.out⟩
     ·skip
      have qc : wf.cell? ⟨qb, 8, none⟩ = some (.slice CA k cc) := HQQ.out.cell rfl
      have qf := HQQ.out.free 8
      have ql := HQQ.out.lt
      refine wpOp_skip rfl (by rfl) (w' := wf.setCell ⟨qb, 8, none⟩ (.slice (some ⟨g, 0, none⟩) (k + 1) cap)) (by go_simp) ?_
      refine ⟨Or.inl (by kernel_rfl), ?_⟩
      simp only [Act.put]
      have HZ2 := Lib.hid (fun q u (hu : [.string ⟨#[]⟩, .string ⟨#[]⟩, .int .i64 0, .int .i64 0, .string ⟨#[]⟩, .slice none 0 0, .int .i64 0][q]? = some u) => (World.cell?_setCell_far wf ⟨qb, 8, none⟩ ⟨g, k * 7 + q, none⟩ (.slice (some ⟨g, 0, none⟩) (k + 1) cap) (fun e => HGQ.out e.symm)).trans (HZ.out q u hu))
      have HCUR2 := Lib.hid ((heap_setCell_other wf ⟨qb, 8, none⟩ g (.slice (some ⟨g, 0, none⟩) (k + 1) cap) HGQ.out).trans HCUR.out)
      have HM2 := Lib.hid (HMORE.out _ (Or.inr rfl))
      generalize wf.setCell ⟨qb, 8, none⟩ (.slice (some ⟨g, 0, none⟩) (k + 1) cap) = wE at HM2 HZ2 HCUR2 ⊢
      clear qc qf ql
      have z0 : wE.cell? ⟨g, k * 7, none⟩ = some (.string ⟨#[]⟩) := HZ2.out 0 _ rfl
      have f0 : wE.frozen? ⟨g, k * 7, none⟩ = false := frozen_of_row _ _ _ _ _ HCUR2.out
      have z1 : wE.cell? ⟨g, k * 7 + 1, none⟩ = some (.string ⟨#[]⟩) := HZ2.out 1 _ rfl
      have f1 : wE.frozen? ⟨g, k * 7 + 1, none⟩ = false := frozen_of_row _ _ _ _ _ HCUR2.out
      have z2 : wE.cell? ⟨g, k * 7 + 2, none⟩ = some (.int .i64 0) := HZ2.out 2 _ rfl
      have f2 : wE.frozen? ⟨g, k * 7 + 2, none⟩ = false := frozen_of_row _ _ _ _ _ HCUR2.out
      have z3 : wE.cell? ⟨g, k * 7 + 3, none⟩ = some (.int .i64 0) := HZ2.out 3 _ rfl
      have f3 : wE.frozen? ⟨g, k * 7 + 3, none⟩ = false := frozen_of_row _ _ _ _ _ HCUR2.out
      have z4 : wE.cell? ⟨g, k * 7 + 4, none⟩ = some (.string ⟨#[]⟩) := HZ2.out 4 _ rfl
      have f4 : wE.frozen? ⟨g, k * 7 + 4, none⟩ = false := frozen_of_row _ _ _ _ _ HCUR2.out
      have z5 : wE.cell? ⟨g, k * 7 + 5, none⟩ = some (.slice none 0 0) := HZ2.out 5 _ rfl
      have f5 : wE.frozen? ⟨g, k * 7 + 5, none⟩ = false := frozen_of_row _ _ _ _ _ HCUR2.out
      have z6 : wE.cell? ⟨g, k * 7 + 6, none⟩ = some (.int .i64 0) := HZ2.out 6 _ rfl
      have f6 : wE.frozen? ⟨g, k * 7 + 6, none⟩ = false := frozen_of_row _ _ _ _ _ HCUR2.out
      refine oneD (i := 10) (by kernel_rfl) (wpOp_skip rfl (by rfl) (w' := ((((((wE.setCell ⟨g, k * 7, none⟩ (.string y.op)).setCell ⟨g, k * 7 + 1, none⟩ (.string y.name)).setCell ⟨g, k * 7 + 2, none⟩ (.int .i64 y.val.type)).setCell ⟨g, k * 7 + 3, none⟩ (.int .i64 y.val.n)).setCell ⟨g, k * 7 + 4, none⟩ (.string y.val.s)).setCell ⟨g, k * 7 + 5, none⟩ (.slice y.A y.args.length y.c)).setCell ⟨g, k * 7 + 6, none⟩ (.int .i64 y.pos)) (by go_simp) ?_)
      refine ⟨Or.inl (by kernel_rfl), ?_⟩
      simp only [Act.put]
      refine doneD (by kernel_rfl) ?_ _
      have HM3 := Lib.hid (show ColsAt T E rb qb A c w (((((((wE.setCell ⟨g, k * 7, none⟩ (.string y.op)).setCell ⟨g, k * 7 + 1, none⟩ (.string y.name)).setCell ⟨g, k * 7 + 2, none⟩ (.int .i64 y.val.type)).setCell ⟨g, k * 7 + 3, none⟩ (.int .i64 y.val.n)).setCell ⟨g, k * 7 + 4, none⟩ (.string y.val.s)).setCell ⟨g, k * 7 + 5, none⟩ (.slice y.A y.args.length y.c)).setCell ⟨g, k * 7 + 6, none⟩ (.int .i64 y.pos)) (k + 1) k j3 (.slice (some ⟨g, 0, none⟩) (k + 1) cap) vn (ys ++ [y]) ns from HM2.out)
      clear z0 z1 z2 z3 z4 z5 z6 f0 f1 f2 f3 f4 f5 f6 HMORE HM2 HZ2 HCUR2
      generalize ((((((wE.setCell ⟨g, k * 7, none⟩ (.string y.op)).setCell ⟨g, k * 7 + 1, none⟩ (.string y.name)).setCell ⟨g, k * 7 + 2, none⟩ (.int .i64 y.val.type)).setCell ⟨g, k * 7 + 3, none⟩ (.int .i64 y.val.n)).setCell ⟨g, k * 7 + 4, none⟩ (.string y.val.s)).setCell ⟨g, k * 7 + 5, none⟩ (.slice y.A y.args.length y.c)).setCell ⟨g, k * 7 + 6, none⟩ (.int .i64 y.pos) = wg at HM3 ⊢
      go_wp2_with fail
      go_meet
      exact ⟨y, g, cap, HM3.out, HST.out⟩
   case rest =>
    obtain ⟨y, g, cap, hg3, hst⟩ := hcut
    have HG3 := Lib.hid hg3
    have HST := Lib.hid hst
    have HGQ3 := Lib.hid (show ((asQ T E j3).bind fun s => if isT T s.2 wComma = true then colsQ T E X f' { zeroQ with cols := strips (ys ++ [y]), names := ns.map (·.data.toList) ++ [s.1] } (s.2 + 1) else .ok ({ zeroQ with cols := strips (ys ++ [y]), names := ns.map (·.data.toList) ++ [s.1] }, s.2)) = r by
     rw [← HGQ2.out, strips_map, List.map_append, ← strips_map, ← hst]; rfl)
    have T5 := Lib.hid (need_any hg3.rd HWW.out ⟨#[97, 115]⟩)
    clear hg3 hst HGQ2 HG T9 HC HST hkl
    go_wp2_with fail
    refine (T5.out).mono ?_
    rintro e' w3 (⟨hh, rfl, hr3, hn3⟩ | ⟨hh, rfl, hn3⟩)
    rotate_left
    ·have HF2 := Lib.hid (HG3.out.only.trans (hn3.mono (fun k e => Or.inl e)))
     replace HGQ3 := Lib.hid (show .error (atT T E j3) = r by rw [← HGQ3.out]; show _ = (((needQ T E qAs j3).bind _).bind _); rw [need_no (s := qAs) hh]; rfl)
     clear hn3 T5
     unfold wrongAt
     go_wp2_with fail
     refine ⟨rfl, ?_⟩
     rw [← HGQ3.out]
     exact ⟨rfl, HF2.out⟩
    have HGX := Lib.hid (HG3.out.to HL.out hn3 hr3)
    have HEX2 := Lib.hid (HE.out.two HGX.out.only HQB.out)
    replace HGQ3 := Lib.hid (show ((nameQ T E (j3 + 1)).bind fun s => if isT T s.2 wComma = true then colsQ T E X f' { zeroQ with cols := strips (ys ++ [y]), names := ns.map (·.data.toList) ++ [s.1] } (s.2 + 1) else .ok ({ zeroQ with cols := strips (ys ++ [y]), names := ns.map (·.data.toList) ++ [s.1] }, s.2)) = r by rw [← HGQ3.out]; show _ = (((needQ T E qAs j3).bind _).bind _); rw [need_ok (s := qAs) hh]; rfl)
    clear hh hr3 hn3 T5 HG3
    obtain ⟨NA, nc, rfl⟩ := own_shape HGX.out.rown
    have HC := Lib.hid (show w3.drew.cell? ⟨qb, 9, none⟩ = some (.slice NA k nc) from HGX.out.q.cell rfl)
    have hkl : k ≤ 400 := HF.out.2.2.2
    cases hnm : nameT T (j3 + 1) with
    | none =>
     have T9 := Lib.hid (gname_no hnm (HGX.out.rd.keep (Below.refl _ _).drew) HWW.out ((HEX2.out.words.keep HEX2.out.below).keep (Below.refl _ _).drew))
     have HR2 := Lib.hid (show .error (atT T E (j3 + 1)) = r by rw [← HGQ3.out, nameQ_no hnm]; rfl)
     clear hnm
     go_wp2_with fail
     refine regionD (fun w' => w'.cell? ⟨qb, 9, none⟩ = some (.slice NA k nc)) 8 (by kernel_rfl) ?_
     refine takeP (i := 0) (dst := some 47) (v := .pointer (some ⟨qb, 0, none⟩)) rfl rfl (by kernel_rfl) (by kernel_rfl) (by kernel_rfl) (fun _ _ _ h => h) (by decide) (Or.inl ⟨by rfl, fun w' _ => by go_simp⟩) (Or.inr HC.out) ?_
     simp only [Act.put, aS, aZ, aC]
     refine takeP (i := 1) (dst := some 48) (v := .pointer (some ⟨qb, 0, none⟩)) rfl rfl (by kernel_rfl) (by kernel_rfl) (by kernel_rfl) (fun _ _ _ h => h) (by decide) (Or.inl ⟨by rfl, fun w' _ => by go_simp⟩) (Or.inr HC.out) ?_
     simp only [Act.put, aS, aZ, aC]
     refine takeP (i := 2) (dst := some 49) (v := .pointer (some ⟨qb, 0, none⟩)) rfl rfl (by kernel_rfl) (by kernel_rfl) (by kernel_rfl) (fun _ _ _ h => h) (by decide) (Or.inl ⟨by rfl, fun w' _ => by go_simp⟩) (Or.inr HC.out) ?_
     simp only [Act.put, aS, aZ, aC]
     refine takeP (i := 3) (dst := some 50) (v := .pointer (some ⟨qb, 9, none⟩)) rfl rfl (by kernel_rfl) (by kernel_rfl) (by kernel_rfl) (fun _ _ _ h => h) (by decide) (Or.inl ⟨by rfl, fun w' _ => by go_simp⟩) (Or.inr HC.out) ?_
     simp only [Act.put, aS, aZ, aC]
     refine takeD (i := 4) (dst := some 51) (v := .slice NA k nc) rfl rfl (by kernel_rfl) (by kernel_rfl) (by kernel_rfl) (fun _ _ _ h => h) (by decide) (by kernel_rfl) (by kernel_rfl) (Or.inl ⟨by rfl, fun w' h => by go_simp⟩) HC.out ?_
     simp only [Act.put, aS, aZ, aC]
     refine takeP (i := 5) (dst := some 52) (v := .pointer (some ⟨rb, 0, none⟩)) rfl rfl (by kernel_rfl) (by kernel_rfl) (by kernel_rfl) (fun _ _ _ h => h) (by decide) (Or.inl ⟨by rfl, fun w' _ => by go_simp⟩) (Or.inr HC.out) ?_
     simp only [Act.put, aS, aZ, aC]
     exact oneD (i := 6) (by kernel_rfl) (wpOp_panics rfl (by rfl) (f := 107) (args := #[.pointer (some ⟨rb, 0, none⟩)]) (by go_simp) (T9.out.mono fun e w' ⟨h1, h2⟩ => ⟨h1, h2⟩) (fun wy hny => ⟨rfl, by rw [← HR2.out]; exact ⟨rfl, HGX.out.only.trans ((hny.drewL).mono (fun k e => Or.inl e))⟩⟩))
    | some nm =>
     have T9 := Lib.hid (name_ok hnm (HGX.out.rd.keep (Below.refl _ _).drew) HWW.out ((HEX2.out.words.keep HEX2.out.below).keep (Below.refl _ _).drew))
     have HNS := Lib.hid (name_size hnm HWW.out)
     have HR2 := Lib.hid (show (if isT T (j3 + 1 + 1) wComma = true then colsQ T E X f' { zeroQ with cols := strips (ys ++ [y]), names := (ns ++ [mkB nm]).map (·.data.toList) } (j3 + 1 + 1 + 1) else .ok ({ zeroQ with cols := strips (ys ++ [y]), names := (ns ++ [mkB nm]).map (·.data.toList) }, j3 + 1 + 1)) = r by
      rw [← HGQ3.out, nameQ_ok hnm, List.map_append]; rfl)
     clear hnm HGQ3
     go_wp2_with fail
     refine regionD (fun w' => w'.cell? ⟨qb, 9, none⟩ = some (.slice NA k nc)) 8 (by kernel_rfl) ?_
     refine takeP (i := 0) (dst := some 47) (v := .pointer (some ⟨qb, 0, none⟩)) rfl rfl (by kernel_rfl) (by kernel_rfl) (by kernel_rfl) (fun _ _ _ h => h) (by decide) (Or.inl ⟨by rfl, fun w' _ => by go_simp⟩) (Or.inr HC.out) ?_
     simp only [Act.put, aS, aZ, aC]
     refine takeP (i := 1) (dst := some 48) (v := .pointer (some ⟨qb, 0, none⟩)) rfl rfl (by kernel_rfl) (by kernel_rfl) (by kernel_rfl) (fun _ _ _ h => h) (by decide) (Or.inl ⟨by rfl, fun w' _ => by go_simp⟩) (Or.inr HC.out) ?_
     simp only [Act.put, aS, aZ, aC]
     refine takeP (i := 2) (dst := some 49) (v := .pointer (some ⟨qb, 0, none⟩)) rfl rfl (by kernel_rfl) (by kernel_rfl) (by kernel_rfl) (fun _ _ _ h => h) (by decide) (Or.inl ⟨by rfl, fun w' _ => by go_simp⟩) (Or.inr HC.out) ?_
     simp only [Act.put, aS, aZ, aC]
     refine takeP (i := 3) (dst := some 50) (v := .pointer (some ⟨qb, 9, none⟩)) rfl rfl (by kernel_rfl) (by kernel_rfl) (by kernel_rfl) (fun _ _ _ h => h) (by decide) (Or.inl ⟨by rfl, fun w' _ => by go_simp⟩) (Or.inr HC.out) ?_
     simp only [Act.put, aS, aZ, aC]
     refine takeD (i := 4) (dst := some 51) (v := .slice NA k nc) rfl rfl (by kernel_rfl) (by kernel_rfl) (by kernel_rfl) (fun _ _ _ h => h) (by decide) (by kernel_rfl) (by kernel_rfl) (Or.inl ⟨by rfl, fun w' h => by go_simp⟩) HC.out ?_
     simp only [Act.put, aS, aZ, aC]
     refine takeP (i := 5) (dst := some 52) (v := .pointer (some ⟨rb, 0, none⟩)) rfl rfl (by kernel_rfl) (by kernel_rfl) (by kernel_rfl) (fun _ _ _ h => h) (by decide) (Or.inl ⟨by rfl, fun w' _ => by go_simp⟩) (Or.inr HC.out) ?_
     simp only [Act.put, aS, aZ, aC]
     refine oneD (i := 6) (by kernel_rfl) (wpOp_returnsD (d := some 53) rfl rfl (by rfl) (f := 107) (args := #[.pointer (some ⟨rb, 0, none⟩)]) (by go_simp) T9.out ?_)
     rintro e wy ⟨rfl, hry, hny⟩
     have HC2 := Lib.hid (only_cell hny HC.out HL.out.ne)
     refine ⟨_, rfl, Or.inr HC2.out, ?_⟩
     simp only [Act.put, aS, aZ, aC]
     have hbz := belowNew' wy (.cells #[.string (mkB nm)] 9)
     have hrow : (wy.alloc (.cells #[.string (mkB nm)] 9)).heap[wy.heap.size]? = some (.cells (strCells [mkB nm]).toArray 9 (0, 0)) := heap_alloc_new wy _
     refine oneD (i := 7) (by kernel_rfl) (wpOp_valueD (d := some 54) rfl rfl (by rfl) (v := .slice (some ⟨wy.heap.size, 0, none⟩) 1 1) (w' := wy.alloc (.cells #[.string (mkB nm)] 9)) (by go_simp) ?_)
     generalize wy.alloc (.cells #[.string (mkB nm)] 9) = wz at hbz hrow ⊢
     have HC3 := Lib.hid ((hbz.cell (p := ⟨qb, _, none⟩) (World.block_lt_of_cell? wy _ HC2.out)).trans HC2.out)
     refine ⟨Or.inr HC3.out, ?_⟩
     simp only [Act.put, aS, aZ, aC]
     refine oneD (i := 8) (by kernel_rfl) (wpOp_append_one (d := some 55) strSlice rfl rfl rfl (.tmp 51) (.tmp 54) rfl (v := .slice NA k nc) (n := k) (xs := strCells ns) (ys := [.string (mkB nm)]) (b := wy.heap.size) (c := 1) (H := wz.heap.size) rfl rfl (show wz.ownsRow w.heap.size 9 1 (.slice NA k nc) k (strCells ns) ∧ w.heap.size ≤ wz.heap.size from ⟨((HGX.out.to HL.out hny.drewL hry).to HL.out (.of_below hbz) (hry.keep hbz)).rown, by have := HGX.out.only.size; have := hny.size; have := hbz.size; have e : w3.drew.heap.size = w3.heap.size := rfl; omega⟩).1 (show wz.ownsRow w.heap.size 9 1 (.slice NA k nc) k (strCells ns) ∧ w.heap.size ≤ wz.heap.size from ⟨((HGX.out.to HL.out hny.drewL hry).to HL.out (.of_below hbz) (hry.keep hbz)).rown, by have := HGX.out.only.size; have := hny.size; have := hbz.size; have e : w3.drew.heap.size = w3.heap.size := rfl; omega⟩).2 rfl (fun q u hu => ?_) (fun u hu => by simp at hu; subst hu; rfl) (by omega) rfl ?_)
     ·have hu' : (strCells [mkB nm])[q]? = some u := hu
      have hcq : wz.cell? ⟨wy.heap.size, q, none⟩ = some u := by rw [cell_of_row _ _ _ _ _ _ hrow]; simpa using hu'
      rw [addr_add0]; exact hcq
     intro g cap wf hown hgr hat
     have HMORE := Lib.hid (HGX.out.moreN HL.out HNS.out hny.drewL hry hbz hgr hat hown)
     refine ⟨Or.inl (by kernel_rfl), ?_⟩
     simp only [Act.put, aS, aZ, aC]
     obtain ⟨qc, qf, ql⟩ := (HMORE.out).1
     refine takeP (i := 9) (dst := some 56) (v := .pointer (some ⟨qb, 0, none⟩)) rfl rfl (by kernel_rfl) (by kernel_rfl) (by kernel_rfl) (fun _ _ _ h => h) (by decide) (Or.inl ⟨by rfl, fun w' _ => by go_simp⟩) (Or.inl (by kernel_rfl)) ?_
     simp only [Act.put, aS, aZ, aC]
     refine takeP (i := 10) (dst := some 57) (v := .pointer (some ⟨qb, 9, none⟩)) rfl rfl (by kernel_rfl) (by kernel_rfl) (by kernel_rfl) (fun _ _ _ h => h) (by decide) (Or.inl ⟨by rfl, fun w' _ => by go_simp⟩) (Or.inl (by kernel_rfl)) ?_
     simp only [Act.put, aS, aZ, aC]
     refine oneD (i := 11) (by kernel_rfl) (wpOp_skip rfl (by rfl) (w' := wf.setCell ⟨qb, 9, none⟩ (.slice (some ⟨g, 0, none⟩) (k + 1) cap)) (by go_simp) ?_)
     refine ⟨Or.inl (by kernel_rfl), ?_⟩
     simp only [Act.put]
     refine doneD (by kernel_rfl) ?_ _
     generalize wf.setCell ⟨qb, 9, none⟩ (.slice (some ⟨g, 0, none⟩) (k + 1) cap) = wg at HMORE ⊢
     clear qc qf ql
     have HG4 := Lib.hid HMORE.out.2
     have T6 := Lib.hid (has_any HG4.out.rd HWW.out ⟨#[44]⟩)
     unfold StepSays at T6
     obtain ⟨b, hb⟩ : ∃ b, isT T (j3 + 1 + 1) wComma = b := ⟨_, rfl⟩
     rw [show isT T (j3 + 1 + 1) (⟨#[44]⟩ : ByteArray).data.toList = b from hb] at T6
     rw [hb] at HR2
     have HBB := Lib.hid hb
     clear hown hgr hat hbz hrow hry hny HC HC2 HC3 T9 HNS HMORE HGX hb hkl
     cases b with
     | true =>
      go_wp2_with fail
      refine (T6.out).mono ?_
      rintro e' w5 ⟨rfl, hr5, hn5⟩
      have hr5' : RdAt T E w5 rb A c (j3 + 1 + 1 + 1) := hr5
      have HG5 := Lib.hid (HG4.out.to HL.out hn5 hr5')
      clear hr5 hr5' hn5 T6
      go_wp2_with fail
      go_roundw
      case rel =>
       exact ⟨k + 1, j3 + 1 + 1 + 1, f', _, _, ys ++ [y], ns ++ [mkB nm], HG5.out, by have := HF.out; have := HJ3.out; omega, by have := HF.out; have := HJ3.out; omega, by rw [← HR2.out]; exact (if_pos trivial).symm⟩
      case measure =>
       rw [HG5.out.rd.idx, HIX.out]
       have := HF.out
       have := HJ3.out
       omega
     | false =>
      have HR3 := Lib.hid (show .ok ({ zeroQ with cols := strips (ys ++ [y]), names := (ns ++ [mkB nm]).map (·.data.toList) }, j3 + 1 + 1) = r by rw [← HR2.out]; exact (if_neg (by decide)).symm)
      go_wp2_with fail
      refine (T6.out).mono ?_
      rintro e' w5 ⟨rfl, hr5, hn5⟩
      have hr5' : RdAt T E w5 rb A c (j3 + 1 + 1) := hr5
      have HG5 := Lib.hid (HG4.out.to HL.out hn5 hr5')
      clear hr5 hr5' hn5 T6
      go_wp2_with fail
      go_ret
      rw [← HR3.out]
      exact ⟨_, rfl, HG5.out.says, HG5.out.rd, HG5.out.only⟩
end Go.Proofs.YtpbbkpfaphjdoaaGreatDoor
