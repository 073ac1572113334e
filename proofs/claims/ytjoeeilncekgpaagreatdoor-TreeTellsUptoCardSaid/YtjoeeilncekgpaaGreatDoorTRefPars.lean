import Derived.Test.YtjoeeilncekgpaaGreatDoorTRefExpr
import Derived.Test.YtjoeeilncekgpaaGreatDoorTRefQuote
import Derived.Deep.AppendLies
import Derived.Test.YtjoeeilncekgpaaGreatDoorTRefLex
import Derived.Test.YtjoeeilncekgpaaGreatDoorTRefCheck
namespace Go.Proofs.YtjoeeilncekgpaaGreatDoor
open Go.ChangeShapes Go.WideShapes Go.ChangeAt Go.RowKit
theorem sA {α : Type} (l : List α) (i : Nat) (a : α) : l.toArray.setIfInBounds i a = (l.set i a).toArray := List.setIfInBounds_toArray ..
theorem sZ {α : Type} (x a : α) (l : List α) : (x :: l).set 0 a = a :: l := List.set_cons_zero ..
theorem sS {α : Type} (x a : α) (l : List α) (n : Nat) : (x :: l).set (n + 1) a = x :: l.set n a := List.set_cons_succ ..
structure ArIn (T : List Tok) (E rb : Nat) (A : Option Addr) (c : Nat) (w : World) (wd : List UInt8) (pos b6 k j : Nat) (st : Option Nat) (A' : Option Addr) (c' : Nat) (ys : List Ex) (wr : World) : Prop where
 len : ys.length = k
 own : Own7 wr b6 (.mk (mkB wd) ⟨#[]⟩ noVal A' c' ys pos)
 row : wr.ownsRow (b6 + 1) 26 7 (.slice A' k c') k (exsCells ys)
 see : ∀ y ∈ ys, SeesS (fun b => w.heap.size < b ∧ b ≠ b6 ∧ (Value.slice A' k c').ownBlock ≠ some b) wr y
 rd : InAt T E wr rb A c j st
 only : Only (fun k => k = rb) w wr
 res : Own7 wr w.heap.size zeroE
 new : w.heap.size < b6
 lt : rb < w.heap.size
 old : 0 < T.length → ∀ ad, A = some ad → ad.block < w.heap.size
section
variable {T : List Tok} {E rb : Nat} {A : Option Addr} {c : Nat} {w : World} {wd : List UInt8} {pos b6 k j : Nat} {st : Option Nat} {A' : Option Addr} {c' : Nat} {ys : List Ex} {wr : World}
theorem ArIn.to (h : ArIn T E rb A c w wd pos b6 k j st A' c' ys wr) {w' : World} {j' : Nat} {st' : Option Nat} (ho : Only (fun k => k = rb) wr w') (hr : InAt T E w' rb A c j' st') : ArIn T E rb A c w wd pos b6 k j' st' A' c' ys w' := by
 have h1 := h.lt
 have h2 := h.new
 refine ⟨h.len, own7_only h.own ho (fun e => by have e' : b6 = rb := e; omega), ho.own h.row (fun k hk e => by have := (h.row.lt k hk).1; have e' : k = rb := e; omega), fun y hy => (h.see y hy).keep (alike_only2 ho (fun b hb e => by have := hb.1; have e' : b = rb := e; omega)), hr, h.only.trans ho, own7_only h.res ho (fun e => by have e' : w.heap.size = rb := e; omega), h2, h1, h.old⟩
theorem ArIn.cell (h : ArIn T E rb A c w wd pos b6 k j st A' c' ys wr) : wr.cell? ⟨b6, 5, none⟩ = some (.slice A' k c') := by
 obtain ⟨-, -, -, -, -, c5, -⟩ := h.own.cells
 have c5' : wr.cell? ⟨b6, 5, none⟩ = some (.slice A' ys.length c') := c5
 rw [c5', h.len]
theorem ArIn.more (h : ArIn T E rb A c w wd pos b6 k j st A' c' ys wr) {wx we wf : World} {j2 g cap : Nat} {st2 : Option Nat} {y : Ex} (ho : Only (fun k => k = rb) wr wx) (hr : InAt T E wx rb A c j2 st2) (hy : SeesS (fun b => wr.heap.size ≤ b) wx y) (hb : Below wx.heap.size wx we)
  (hown : wf.ownsRow (b6 + 1) 26 7 (.slice (some ⟨g, 0, none⟩) (k + 1) cap) (k + 1) (exsCells ys ++ [.string y.op, .string y.name, .int .i64 y.val.type, .int .i64 y.val.n, .string y.val.s, .slice y.A y.args.length y.c, .int .i64 y.pos])) (hg : we.grownBy wf (Value.slice A' k c').ownBlock) (hat : (Value.slice A' k c').ownBlock = some g ∨ g = we.heap.size) :
  wf.cell? ⟨b6, 5, none⟩ = some (.slice A' k c') ∧ wf.frozen? ⟨b6, 5, none⟩ = false ∧ ArIn T E rb A c w wd pos b6 (k + 1) j2 st2 (some ⟨g, 0, none⟩) cap (ys ++ [y]) (wf.setCell ⟨b6, 5, none⟩ (.slice (some ⟨g, 0, none⟩) (k + 1) cap)) := by
 have H1 := h.to ho hr
 have H2 := H1.to (.of_below hb) (hr.keep hb)
 have hn := h.new
 have hl := h.lt
 have hof : Only (fun b => (Value.slice A' k c').ownBlock = some b) we wf := Only.of_grown hg (fun b e => e.symm)
 have hlow : ∀ b, (Value.slice A' k c').ownBlock = some b → b6 < b ∧ b < wr.heap.size := fun b e => ⟨(h.row.lt b e).1, (h.row.lt b e).2⟩
 have hs1 := ho.size
 have hs2 := hb.size
 have hs3 := hof.size
 have ho6 : Own7 wf b6 (.mk (mkB wd) ⟨#[]⟩ noVal A' c' ys pos) := own7_only H2.own hof (fun e => by have := (hlow b6 e).1; omega)
 have hl6 : b6 < wr.heap.size := h.own.lt
 have hc : wf.cell? ⟨b6, 5, none⟩ = some (.slice A' k c') := by
  obtain ⟨-, -, -, -, -, c5, -⟩ := ho6.cells
  have c5' : wf.cell? ⟨b6, 5, none⟩ = some (.slice A' ys.length c') := c5
  rw [c5', h.len]
 refine ⟨hc, ho6.free 5, ?_⟩
 have hog : Only (fun b => b = b6) wf (wf.setCell ⟨b6, 5, none⟩ (.slice (some ⟨g, 0, none⟩) (k + 1) cap)) := (Only.refl (fun b => b = b6) wf).setCell (p := ⟨b6, 5, none⟩) rfl _
 have hgl : b6 < g := by rcases hat with e | e; exact (hlow g e).1; omega
 have hlen : (ys ++ [y]).length = k + 1 := by rw [List.length_append, h.len]; rfl
 refine ⟨hlen, ?_, ?_, fun z hz => ?_, ?_, ?_, ?_, hn, hl, h.old⟩
 ·have := ho6.setArgs (some ⟨g, 0, none⟩) cap (ys ++ [y])
  rw [hlen] at this
  exact this
 ·have e : exsCells (ys ++ [y]) = exsCells ys ++ [.string y.op, .string y.name, .int .i64 y.val.type, .int .i64 y.val.n, .string y.val.s, .slice y.A y.args.length y.c, .int .i64 y.pos] := by simp [exsCells, exCells]
  rw [e]
  refine hog.own hown (fun b hb e => ?_)
  injection hb with hb
  have hb : g = b := hb
  have e : b = b6 := e
  omega
 ·have key : SeesS (fun b => (w.heap.size < b ∧ b ≠ b6 ∧ (Value.slice A' k c').ownBlock ≠ some b) ∧ b < wx.heap.size) wx z := by
   rcases List.mem_append.1 hz with hz | hz
   ·exact seesS_lt2 (H1.see z hz)
   ·simp at hz
    subst hz
    exact (seesS_lt2 hy).mono (fun b hb => ⟨⟨by have := hb.1; omega, by have := hb.1; omega, fun e => by have := (hlow b e).2; have := hb.1; omega⟩, hb.2⟩)
  refine (((key.keep (.of_below hb)).keep (alike_only2 hof (fun b hb e => hb.1.2.2 e))).keep (alike_only2 hog (fun b hb e => hb.1.2.1 e))).mono (fun b hb => ⟨hb.1.1, hb.1.2.1, fun e => ?_⟩)
  injection e with e
  have e : g = b := e
  subst e
  rcases hat with e | e
  ·exact hb.1.2.2 e
  ·have := hb.2; omega
 ·exact (((hr.keep hb).other hof (fun e => by have := (hlow rb e).1; omega) (fun h0 ad e e2 => by have := h.old h0 ad e; have := (hlow _ e2).1; omega)).other hog (fun e => by have e' : rb = b6 := e; omega) (fun h0 ad e e2 => by have := h.old h0 ad e; have e' : ad.block = b6 := e2; omega))
 ·exact (H2.only.then_news hof (fun b e => by have := (hlow b e).1; omega)).then_news hog (fun b e => by have e' : b = b6 := e; omega)
 ·exact own7_only (own7_only H2.res hof (fun e => by have := (hlow _ e).1; omega)) hog (fun e => by have e' : w.heap.size = b6 := e; omega)
theorem ArIn.says (h : ArIn T E rb A c w wd pos b6 k j st A' c' ys wr) (hk : 0 < k) (hwd : wd.length ≤ 400) (hp : fits (pos : Int)) {r : PR} (hr : IsR r (.mk (mkB wd) ⟨#[]⟩ noVal A' c' ys pos) j st) {w' : World} (ho : Only (fun b => b = w.heap.size) wr w') :
  ISays T E rb A c r w (.returned (exV (.mk (mkB wd) ⟨#[]⟩ noVal A' c' ys pos))) w' := by
 have hn := h.new
 have hl := h.lt
 have hlen := h.len
 obtain ⟨g, cap, e, hg, hrow⟩ := RowE.of_own h.row hlen hk
 injection e with e1 e2 e3
 subst e1
 subst e3
 have hz : (mkB wd).size = wd.length := rfl
 have hs := hrow.sees
 have hsee : SeesS (fun b => w.heap.size < b) wr (.mk (mkB wd) ⟨#[]⟩ noVal (some ⟨g, 0, none⟩) c' ys pos) := by
  refine .mk hs (fun g' o' e _ => ?_) (show (mkB wd).size ≤ maxLen by rw [hz]; unfold maxLen; omega) (Nat.zero_le _) ⟨show fits 0 by decide, show fits 0 by decide, Nat.zero_le _⟩ hp (fun a ha => (h.see a ha).mono (fun b hb => hb.1))
  injection e with e
  injection e with e _
  omega
 exact isays_put h.only h.rd hsee (fun b hb => by have hb' : w.heap.size < b := hb; exact ⟨by omega, by omega⟩) hr ho rfl h.lt h.old
end
theorem wpList_append_ex {ops : Array Oper} {rest : List Oper} {o : Oper} {a : Act} {Q : Exit → Act → World → Prop} (hgd : o.guard = none) (s x : Operand)
  (ho : o.op = .call { callee := .builtin .append, args := #[s, x], argTypes := #[24, 24] })
  {B : Nat} {w : World} {v : Value} {n : Nat} {xs : List Value} {b c : Nat} {y : Ex}
  (hs : a.eval s = v) (hx : a.eval x = .slice (some ⟨b, 0, none⟩) 1 c)
  (hown : w.ownsRow B 26 7 v n xs) (hB : B ≤ w.heap.size) (hrow : w.heap[b]? = some (.cells (exsCells [y]).toArray 26 (0, 0))) (hn : n ≤ 400)
  (h : ∀ g cap w', w'.ownsRow B 26 7 (.slice (some ⟨g, 0, none⟩) (n + 1) cap) (n + 1) (xs ++ exsCells [y]) → w.grownBy w' v.ownBlock → (v.ownBlock = some g ∨ g = w.heap.size) → wpList Tryz.prog ops Q rest (a.put o.dst (.slice (some ⟨g, 0, none⟩) (n + 1) cap)) w') : wpList Tryz.prog ops Q (o :: rest) a w := by
 obtain ⟨ht, h2, h3, hzs, i, hi, hz, hsz, hby⟩ := exSlice
 refine wpList_append_lies w hgd s x _ ho B _ i _ 7 96 ht hi hz hsz hby hzs h2 v n xs hs hown ⟨b, 0, none⟩ 1 c (exsCells [y]) hx (by rw [exsCells_length]; rfl) (fun q u hu => ?_) (exs_cell' [y]) (by decide) (by unfold maxLen; omega) (by omega) hB _ rfl (fun g cap w' k1 k2 k3 _ => h g cap w' k1 k2 k3)
 rw [addr_add0, cell_of_row _ _ _ _ _ _ hrow]
 simpa using hu
def ArS (T : List Tok) (E : Nat) (wd : List UInt8) (pos m i0 : Nat) (r : PR) (acc : List Ex) (j : Nat) (st : Option Nat) : Prop := match st with
 | none => i0 + 2 ≤ j ∧ Rd T E (.ar wd pos m acc) j r
 | some k => r = .error k
theorem arS_next {T : List Tok} {E : Nat} {wd : List UInt8} {pos m i0 : Nat} {r : PR} {acc : List Ex} {j : Nat} {st : Option Nat} (h : ArS T E wd pos m i0 r acc j st) (hm : acc.length < m) {j' : Nat} {st' : Option Nat}
  (hj : (acc = [] ∧ j' = j ∧ st' = st) ∨ (acc ≠ [] ∧ j' = needI T j st wComma ∧ st' = needB T E j st wComma)) :
  ∃ r2, RdS T E (.lv 0) j' st' r2 ∧ (st' = none → i0 + 2 ≤ j') ∧ ∀ y j2 st2, j' ≤ T.length → IsR r2 y j2 st2 → ArS T E wd pos m i0 r (acc ++ [strip y]) j2 st2 := by
 cases st with
 | some k =>
  have h : r = .error k := h
  have e : st' = some k := by
   rcases hj with ⟨-, -, e⟩ | ⟨-, -, e⟩
   ·exact e
   ·rw [e]; unfold needB isIn; rfl
  subst e
  exact ⟨.error k, rfl, (fun e => by cases e), fun y j2 st2 _ hR => by have hR : st2 = some k := hR; subst hR; exact h⟩
 | none =>
  obtain ⟨hij, hrd⟩ := h
  rcases ar_cases hrd with ⟨he, -⟩ | ⟨-, h0, hc, hr⟩ | ⟨-, i', hi, hw⟩
  ·omega
  ·rcases hj with ⟨e, -⟩ | ⟨-, -, e⟩
   ·exact absurd e h0
   ·have e : st' = some (atT T E j) := by rw [e]; unfold needB isIn; rw [hc]; rfl
    subst e
    exact ⟨.error (atT T E j), rfl, (fun e => by cases e), fun y j2 st2 _ hR => by have hR : st2 = some (atT T E j) := hR; subst hR; exact hr⟩
  ·obtain ⟨rfl, rfl⟩ : j' = i' ∧ st' = none := by
    rcases hi with ⟨e, rfl⟩ | ⟨h0, hc, rfl⟩
    ·rcases hj with ⟨-, e1, e2⟩ | ⟨e', -⟩
     ·exact ⟨e1, e2⟩
     ·exact absurd e e'
    ·rcases hj with ⟨e', -⟩ | ⟨-, e1, e2⟩
     ·exact absurd e' h0
     ·refine ⟨?_, ?_⟩
      ·rw [e1]; unfold needI isIn; rw [hc]; rfl
      ·rw [e2]; unfold needB isIn; rw [hc]; rfl
   have hij' : i0 + 2 ≤ j' := by rcases hi with ⟨-, rfl⟩ | ⟨-, -, rfl⟩ <;> omega
   rcases hw with ⟨k, ha, hr⟩ | ⟨x, j3, ha, hr⟩
   ·exact ⟨_, ha, fun _ => hij', fun y j2 st2 _ hR => by have hR : st2 = some k := hR; subst hR; exact hr⟩
   ·refine ⟨_, ha, fun _ => hij', fun y j2 st2 hjl hR => ?_⟩
    obtain ⟨rfl, rfl, rfl⟩ := hR
    have := (rd_on ha _ _ rfl hjl).1
    exact ⟨by omega, hr⟩
theorem arS_end {T : List Tok} {E : Nat} {wd : List UInt8} {pos m i0 : Nat} {r : PR} {acc : List Ex} {j : Nat} {st : Option Nat} (h : ArS T E wd pos m i0 r acc j st) (hm : acc.length = m) {A' : Option Addr} {c' : Nat} {ys : List Ex} (hy : strips ys = acc) :
  IsR r (.mk (mkB wd) ⟨#[]⟩ noVal A' c' ys pos) (needI T j st wClose) (needB T E j st wClose) := by
 cases st with
 | some k =>
  have h : r = .error k := h
  rw [h]
  show needB T E j (some k) wClose = some k
  unfold needB isIn; rfl
 | none =>
  obtain ⟨hij, hrd⟩ := h
  rcases ar_cases hrd with ⟨-, ⟨hc, hr⟩ | ⟨hc, hr⟩⟩ | ⟨h, -⟩ | ⟨h, -⟩
  ·rw [hr]
   refine ⟨?_, ?_, ?_⟩
   ·unfold needB isIn; rw [hc]; rfl
   ·unfold needI isIn; rw [hc]; rfl
   ·rw [strip_mk, hy]; rfl
  ·rw [hr]
   show needB T E j none wClose = some (atT T E j)
   unfold needB isIn; rw [hc]; rfl
  ·omega
  ·omega
set_option maxHeartbeats 8000000 in
set_option maxRecDepth 100000 in
theorem io_par {T : List Tok} {E : Nat} (hW : Words T E) {i : Nat} (h : isT T i wOpen = true) {r r1 : PR} (hrd : RdS T E (.lv 0) (i + 1) none r1) (rb : Nat) (A : Option Addr) (c : Nat) (IH : ∀ (j : Nat) (st : Option Nat) (r' : PR), (st = none → i + 1 ≤ j) → RdS T E (.lv 0) j st r' → ∀ w' : World, InAt T E w' rb A c j st → Calls Tryz.prog 46 #[.pointer (some ⟨rb, 0, none⟩), .int .i64 0] w' (ISays T E rb A c r' w')) (hend : ∀ y j st, IsR r1 y j st → IsR r y (needI T j st wClose) (needB T E j st wClose)) (w : World)  (hI : InAt T E w rb A c i none) :
  Calls Tryz.prog 97 #[.pointer (some ⟨rb, 0, none⟩)] w (ISays T E rb A c r w) := by
 obtain ⟨w0, hw0, ho0, hb0⟩ := box_zeroE w
 have hi0 := hI.keep hb0
 have HW0 := Lib.hid hw0
 have HI0 := Lib.hid hi0
 have HZ0 := Lib.hid ho0
 have HN0 := Lib.hid (Only.of_below (S := fun k => k = rb) hb0)
 have HLT := Lib.hid hI.lt
 have HOLD := Lib.hid (show 0 < T.length → ∀ ad, A = some ad → ad.block < w.heap.size from hI.old)
 have T1 := Lib.hid (inAt_any hi0 hW)
 have HWW := Lib.hid hW
 have HH := Lib.hid (show isIn T i none (⟨#[40]⟩ : ByteArray).data.toList = true from h)
 have HIH := Lib.hid (IH (i + 1) none r1 (fun _ => Nat.le_refl _) hrd)
 have HEND := Lib.hid hend
 clear hI hw0 hi0 ho0 hb0 h hW IH hrd hend
 go_enter Tryz.func97, Tryz.ntmps97
 go_wp2_with (first | rw [HW0.out])
 refine (T1.out).mono ?_
 rintro e' w1 ⟨rfl, hb1⟩
 have HI1 := Lib.hid (HI0.out.keep hb1)
 have HN1 := Lib.hid (HN0.out.trans (.of_below hb1))
 have HZ1 := Lib.hid (HZ0.out.keep hb1)
 clear hb1 T1
 have TH1 := Lib.hid (inHas_any HI1.out HWW.out ⟨#[40]⟩)
 rw [show isIn T i none (⟨#[40]⟩ : ByteArray).data.toList = true from HH.out] at TH1
 go_wp2_with fail
 refine (TH1.out).mono ?_
 rintro e' w2 ⟨rfl, hi2, hn2⟩
 have HI2 := Lib.hid (show InAt T E w2 rb A c (i + 1) none from hi2)
 have HN2 := Lib.hid (HN1.out.trans hn2)
 have HZ2 := Lib.hid (own7_only HZ1.out hn2 (fun e => by have := HLT.out; have e' : w.heap.size = rb := e; omega))
 clear hi2 hn2 TH1
 have T3 := Lib.hid (HIH.out w2 HI2.out)
 go_wp2_with fail
 refine (T3.out).mono ?_
 rintro e' w3 ⟨y1, j, st, rfl, hy, hi3, hn3, hr⟩
 obtain ⟨w4, hw4, ho4, hb4, -⟩ := box_ex w3 y1
 have HI4 := Lib.hid (hi3.keep hb4)
 have T4 := Lib.hid (inNeed_any (hi3.keep hb4) HWW.out ⟨#[41]⟩)
 have HN4 := Lib.hid ((HN2.out.trans hn3).trans (.of_below hb4))
 have HZ4 := Lib.hid ((own7_only HZ2.out hn3 (fun e => by have := HLT.out; have e' : w.heap.size = rb := e; omega)).keep hb4)
 have HL := Lib.hid (show w.heap.size < w2.heap.size ∧ w2.heap.size ≤ w3.heap.size ∧ rb < w3.heap.size from ⟨HZ2.out.lt, hn3.size, hi3.lt⟩)
 have HY := Lib.hid ((seesS_lt2 hy).keep (.of_below hb4))
 have HO4 := Lib.hid ho4
 have HR := Lib.hid (HEND.out y1 j st hr)
 have HW4 := Lib.hid hw4
 clear hy hi3 hn3 hr hw4 ho4 hb4 T3
 unfold exV
 go_wp2_with (first | rw [HW4.out])
 refine (T4.out).mono ?_
 rintro e' w5 ⟨rfl, hi5, hn5⟩
 have HI5 := Lib.hid hi5
 have HN5 := Lib.hid (HN4.out.trans hn5)
 have HZ5 := Lib.hid (own7_only HZ4.out hn5 (fun e => by have := HLT.out; have e' : w.heap.size = rb := e; omega))
 have ho5 := own7_only HO4.out hn5 (fun e => by have := HL.out; have e' : w3.heap.size = rb := e; omega)
 have HY5 := Lib.hid (HY.out.keep (alike_only2 hn5 (fun b hb e => by have := HL.out; have := HLT.out; have h1 : w2.heap.size ≤ b := hb.1; have e' : b = rb := e; omega)))
 obtain ⟨x0, x1, x2, x3, x4, x5, x6⟩ := ho5.cells
 have hl5 := ho5.lt
 clear hi5 hn5 T4 ho5
 go_wp2_with (first
  | (refine wpList_put7 rfl (.tmp 2) (.tmp 22) rfl (X := y1) HZ5.out rfl (by rfl) ?_; intro wl hzl hol; have HZL := Lib.hid hzl; have HOL := Lib.hid hol; clear hzl hol))
 obtain ⟨o0, o1, o2, o3, o4, o5, o6⟩ := HZL.out.cells
 refine bodyPost_ret (v := exV y1) ?_ rfl ?_
 ·simp [results, Tryz.results97, go_sem, o0, o1, o2, o3, o4, o5, o6, exV]
 ·exact isays_put HN5.out HI5.out HY5.out (fun b hb => by have := HL.out; have h1 : w2.heap.size ≤ b := hb.1; exact ⟨by omega, by omega⟩) HR.out HOL.out rfl HLT.out HOLD.out
set_option maxHeartbeats 8000000 in
set_option maxRecDepth 100000 in
theorem io_len {T : List Tok} {E : Nat} (hW : Words T E) {i : Nat} (h : isT T i wOpen = false) (hl : isT T i wLen = true) {r : PR} (rb : Nat) (A : Option Addr) (c : Nat) (IH : ∀ (j : Nat) (st : Option Nat) (r' : PR), (st = none → i + 1 ≤ j) → RdS T E (.lv 0) j st r' → ∀ w' : World, InAt T E w' rb A c j st → Calls Tryz.prog 46 #[.pointer (some ⟨rb, 0, none⟩), .int .i64 0] w' (ISays T E rb A c r' w')) (hst : ArS T E wLen (atT T E i) 1 i r [] (needI T (i + 1) none wOpen) (needB T E (i + 1) none wOpen)) (w : World)  (hI : InAt T E w rb A c i none) :
  Calls Tryz.prog 97 #[.pointer (some ⟨rb, 0, none⟩)] w (ISays T E rb A c r w) := by
 obtain ⟨w0, hw0, ho0, hb0⟩ := box_zeroE w
 have hi0 := hI.keep hb0
 have HW0 := Lib.hid hw0
 have HI0 := Lib.hid hi0
 have HZ0 := Lib.hid ho0
 have HN0 := Lib.hid (Only.of_below (S := fun k => k = rb) hb0)
 have HLT := Lib.hid hI.lt
 have HOLD := Lib.hid (show 0 < T.length → ∀ ad, A = some ad → ad.block < w.heap.size from hI.old)
 have T1 := Lib.hid (inAt_any hi0 hW)
 have HWW := Lib.hid hW
 have HH := Lib.hid (show isIn T i none (⟨#[40]⟩ : ByteArray).data.toList = false from h)
 have HIH := Lib.hid IH
 have HST := Lib.hid hst
 clear hI hw0 hi0 ho0 hb0 h hW IH hst
 have HHL := Lib.hid (show isIn T i none (⟨#[108, 101, 110]⟩ : ByteArray).data.toList = true from hl)
 clear hl
 go_enter Tryz.func97, Tryz.ntmps97
 go_wp2_with (first | rw [HW0.out])
 refine (T1.out).mono ?_
 rintro e' w1 ⟨rfl, hb1⟩
 have HI1 := Lib.hid (HI0.out.keep hb1)
 have HN1 := Lib.hid (HN0.out.trans (.of_below hb1))
 have HZ1 := Lib.hid (HZ0.out.keep hb1)
 clear hb1 T1
 have TH1 := Lib.hid (inHas_any HI1.out HWW.out ⟨#[40]⟩)
 rw [show isIn T i none (⟨#[40]⟩ : ByteArray).data.toList = false from HH.out] at TH1
 go_wp2_with fail
 refine (TH1.out).mono ?_
 rintro e' w2 ⟨rfl, hi2, hn2⟩
 have HI2 := Lib.hid (show InAt T E w2 rb A c (i) none from hi2)
 have HN2 := Lib.hid (HN1.out.trans hn2)
 have HZ2 := Lib.hid (own7_only HZ1.out hn2 (fun e => by have := HLT.out; have e' : w.heap.size = rb := e; omega))
 clear hi2 hn2 TH1
 have TH2 := Lib.hid (inHas_any HI2.out HWW.out ⟨#[108, 101, 110]⟩)
 rw [show isIn T i none (⟨#[108, 101, 110]⟩ : ByteArray).data.toList = true from HHL.out] at TH2
 go_wp2_with fail
 refine (TH2.out).mono ?_
 rintro e' w3 ⟨rfl, hi3, hn3⟩
 have HI3 := Lib.hid (show InAt T E w3 rb A c (i + 1) none from hi3)
 have HN3 := Lib.hid (HN2.out.trans hn3)
 have HZ3 := Lib.hid (own7_only HZ2.out hn3 (fun e => by have := HLT.out; have e' : w.heap.size = rb := e; omega))
 clear hi3 hn3 TH2
 obtain ⟨wp, hwp, hop, hbp⟩ : ∃ wp, w3.alloc (.cells #[.string ⟨#[108, 101, 110]⟩, .string ⟨#[]⟩, .int .i64 0, .int .i64 0, .string ⟨#[]⟩, .slice none 0 0, .int .i64 (atT T E i)] 26) = wp ∧ Own7 wp w3.heap.size (.mk (mkB wLen) ⟨#[]⟩ noVal none 0 [] (atT T E i)) ∧ Below w3.heap.size w3 wp := ⟨_, rfl, own7_new w3 (.mk (mkB wLen) ⟨#[]⟩ noVal none 0 [] (atT T E i)), belowNew' _ _⟩
 have HARP := Lib.hid (show ArIn T E rb A c w wLen (atT T E i) w3.heap.size 0 (i + 1) none none 0 [] wp from ⟨rfl, hop, World.ownsRow_nil _ _ _ _, (fun y hy => by cases hy), HI3.out.keep hbp, HN3.out.trans (.of_below hbp), HZ3.out.keep hbp, HZ3.out.lt, HLT.out, HOLD.out⟩)
 have bd := run_opp ⟨#[108, 101, 110]⟩ (atT T E i)
 have T5 := Lib.hid (inNeed_any HARP.out.rd HWW.out ⟨#[40]⟩)
 have HWP := Lib.hid hwp
 clear hwp hop hbp
 go_wp2_with (first | rw [HWP.out])
 generalize w3.heap.size = b7 at HARP ⊢
 refine (T5.out).mono ?_
 rintro e' wq ⟨rfl, hiq, hnq⟩
 have HARQ := Lib.hid (HARP.out.to hnq hiq)
 clear hiq hnq T5 bd HWP
 go_wp2_with fail
 go_loopw [8] (fun n wr => ∃ (k j : Nat) (st : Option Nat) (A' : Option Addr) (c' : Nat) (ys : List Ex), n = .int .i64 k ∧ k ≤ 1 ∧ ArS T E wLen (atT T E i) 1 i r (strips ys) j st ∧ ArIn T E rb A c w wLen (atT T E i) b7 k j st A' c' ys wr) (fun n _ => 1 - (intOf n).toNat)
 case atStart => exact ⟨0, _, _, none, 0, [], rfl, Nat.zero_le _, HST.out, HARQ.out⟩
 case round =>
  obtain ⟨k, j, st, A', c', ys, rfl, hk, hs, ha⟩ := hrel
  have HAR := Lib.hid ha
  have HAS := Lib.hid hs
  have HLS := Lib.hid (show (strips ys).length = k by rw [strips_len]; exact ha.len)
  clear ha hs
  by_cases hkm : k < 1
  ·by_cases hk0 : 0 < k
   ·omega
   ·have HNX := Lib.hid (arS_next HAS.out (by rw [HLS.out]; exact hkm) (j' := j) (st' := st) (Or.inl ⟨List.eq_nil_of_length_eq_zero (by rw [HLS.out]; omega), rfl, rfl⟩))
    have HAX := HAR
    go_wp2_with fail
    generalize wr = wx at HAX ⊢
    generalize j = j2 at HAX HNX
    generalize st = st2 at HAX HNX
    obtain ⟨r2, hr2, hj2, haf⟩ := HNX.out
    have HAF := Lib.hid haf
    have T7 := Lib.hid (HIH.out j2 st2 r2 (fun e => by have := hj2 e; omega) hr2 wx HAX.out.rd)
    clear hr2 hj2 haf
    go_wp2_with fail
    refine (T7.out).mono ?_
    rintro e' wy ⟨y, j3, st3, rfl, hsy, hiy, hny, hry⟩
    obtain ⟨wa, hwa, hoa, hba, -⟩ := box_ex wy y
    have hbb := belowNew' wa (.cells #[.string y.op, .string y.name, .int .i64 y.val.type, .int .i64 y.val.n, .string y.val.s, .slice y.A y.args.length y.c, .int .i64 y.pos] 26)
    have hrow : (wa.alloc (.cells #[.string y.op, .string y.name, .int .i64 y.val.type, .int .i64 y.val.n, .string y.val.s, .slice y.A y.args.length y.c, .int .i64 y.pos] 26)).heap[wa.heap.size]? = some (.cells (exsCells [y]).toArray 26 (0, 0)) := heap_alloc_new wa _
    obtain ⟨wb, hwb⟩ : ∃ wb, wa.alloc (.cells #[.string y.op, .string y.name, .int .i64 y.val.type, .int .i64 y.val.n, .string y.val.s, .slice y.A y.args.length y.c, .int .i64 y.pos] 26) = wb := ⟨_, rfl⟩
    rw [hwb] at hbb hrow
    have hyb : Below wy.heap.size wy wb := below_step hba hbb
    have HAA := Lib.hid ((HAX.out.to hny hiy).to (.of_below hba) (hiy.keep hba))
    have HAB := Lib.hid ((HAX.out.to hny hiy).to (.of_below hyb) (hiy.keep hyb))
    have HAS2 := Lib.hid (HAF.out y j3 st3 HAX.out.rd.le hry)
    have c5 := HAA.out.cell
    have hl7 := HAA.out.own.lt
    obtain ⟨x0, x1, x2, x3, x4, x5, x6⟩ := hoa.cells
    have hla := hoa.lt
    have HMORE := Lib.hid (show ∀ g cap wf, wf.ownsRow (b7 + 1) 26 7 (.slice (some ⟨g, 0, none⟩) (k + 1) cap) (k + 1) (exsCells ys ++ exsCells [y]) → wb.grownBy wf (Value.slice A' k c').ownBlock → ((Value.slice A' k c').ownBlock = some g ∨ g = wb.heap.size) → wf.cell? ⟨b7, 5, none⟩ = some (.slice A' k c') ∧ wf.frozen? ⟨b7, 5, none⟩ = false ∧ ArIn T E rb A c w wLen (atT T E i) b7 (k + 1) j3 st3 (some ⟨g, 0, none⟩) cap (ys ++ [y]) (wf.setCell ⟨b7, 5, none⟩ (.slice (some ⟨g, 0, none⟩) (k + 1) cap)) from fun g cap wf h1 h2 h3 => HAX.out.more hny hiy hsy hyb h1 h2 h3)
    have HROW := Lib.hid hrow
    have HWA := Lib.hid hwa
    have HWB := Lib.hid hwb
    clear hsy hiy hny hry hwa hoa hba hbb hrow hwb hyb T7
    unfold exV
    go_wp2_with (first
     | rw [HWA.out] | rw [HWB.out]
     | (at_builtin; refine wpList_append_ex rfl (.tmp 46) (.tmp 48) rfl (v := .slice A' k c') (n := k) (b := wa.heap.size) (c := 1) (y := y) rfl rfl HAB.out.row HAB.out.own.lt HROW.out (by omega) ?_; intro g cap wf hown hgr hat; obtain ⟨q1, q2, hmr⟩ := HMORE.out g cap wf hown hgr hat; have HMR := Lib.hid hmr; clear hown hgr hat hmr))
    generalize wf.setCell ⟨b7, 5, none⟩ (.slice (some ⟨g, 0, none⟩) (k + 1) cap) = wg at HMR ⊢
    go_roundw
    case rel => exact ⟨k + 1, j3, st3, _, _, ys ++ [y], by go_num, by omega, by rw [strips_map, List.map_append, ← strips_map]; exact HAS2.out, HMR.out⟩
    case measure => simp [intOf]; omega
  ·have T8 := Lib.hid (inNeed_any HAR.out.rd HWW.out ⟨#[41]⟩)
   have hkk : k = 1 := by omega
   have HEND := Lib.hid (arS_end (A' := A') (c' := c') HAS.out (by rw [HLS.out]; exact hkk) (rfl : strips ys = strips ys))
   have HK := Lib.hid (show 0 < k by omega)
   clear hkk
   go_wp2_with fail
   refine (T8.out).mono ?_
   rintro e' wx ⟨rfl, hix, hnx⟩
   have HAX := Lib.hid (HAR.out.to hnx hix)
   obtain ⟨t0, t1, t2, t3, t4, t5, t6⟩ := HAX.out.own.cells
   have hlb := HAX.out.own.lt
   have HRES := Lib.hid HAX.out.res
   clear hix hnx T8
   go_wp2_with (first
    | (refine wpList_put7 rfl (.tmp 2) (.tmp 53) rfl (X := (.mk (mkB wLen) ⟨#[]⟩ noVal A' c' ys (atT T E i))) HRES.out rfl (by rfl) ?_; intro wl hzl hol; have HZL := Lib.hid hzl; have HOL := Lib.hid hol; clear hzl hol))
   obtain ⟨o0, o1, o2, o3, o4, o5, o6⟩ := HZL.out.cells
   refine bodyPost_ret (v := exV (.mk (mkB wLen) ⟨#[]⟩ noVal A' c' ys (atT T E i))) ?_ rfl ?_
   ·simp [results, Tryz.results97, go_sem, o0, o1, o2, o3, o4, o5, o6, exV]
   ·exact HAX.out.says HK.out (by decide) (fits_at HWW.out i) HEND.out HOL.out
set_option maxHeartbeats 8000000 in
set_option maxRecDepth 100000 in
theorem io_if {T : List Tok} {E : Nat} (hW : Words T E) {i : Nat} (h : isT T i wOpen = false) (hl : isT T i wLen = false) (hf : isT T i wIf = true) {r : PR} (rb : Nat) (A : Option Addr) (c : Nat) (IH : ∀ (j : Nat) (st : Option Nat) (r' : PR), (st = none → i + 1 ≤ j) → RdS T E (.lv 0) j st r' → ∀ w' : World, InAt T E w' rb A c j st → Calls Tryz.prog 46 #[.pointer (some ⟨rb, 0, none⟩), .int .i64 0] w' (ISays T E rb A c r' w')) (hst : ArS T E wIf (atT T E i) 3 i r [] (needI T (i + 1) none wOpen) (needB T E (i + 1) none wOpen)) (w : World)  (hI : InAt T E w rb A c i none) :
  Calls Tryz.prog 97 #[.pointer (some ⟨rb, 0, none⟩)] w (ISays T E rb A c r w) := by
 obtain ⟨w0, hw0, ho0, hb0⟩ := box_zeroE w
 have hi0 := hI.keep hb0
 have HW0 := Lib.hid hw0
 have HI0 := Lib.hid hi0
 have HZ0 := Lib.hid ho0
 have HN0 := Lib.hid (Only.of_below (S := fun k => k = rb) hb0)
 have HLT := Lib.hid hI.lt
 have HOLD := Lib.hid (show 0 < T.length → ∀ ad, A = some ad → ad.block < w.heap.size from hI.old)
 have T1 := Lib.hid (inAt_any hi0 hW)
 have HWW := Lib.hid hW
 have HH := Lib.hid (show isIn T i none (⟨#[40]⟩ : ByteArray).data.toList = false from h)
 have HIH := Lib.hid IH
 have HST := Lib.hid hst
 clear hI hw0 hi0 ho0 hb0 h hW IH hst
 have HHL := Lib.hid (show isIn T i none (⟨#[108, 101, 110]⟩ : ByteArray).data.toList = false from hl)
 clear hl
 have HHF := Lib.hid (show isIn T i none (⟨#[105, 102]⟩ : ByteArray).data.toList = true from hf)
 clear hf
 go_enter Tryz.func97, Tryz.ntmps97
 go_wp2_with (first | rw [HW0.out])
 refine (T1.out).mono ?_
 rintro e' w1 ⟨rfl, hb1⟩
 have HI1 := Lib.hid (HI0.out.keep hb1)
 have HN1 := Lib.hid (HN0.out.trans (.of_below hb1))
 have HZ1 := Lib.hid (HZ0.out.keep hb1)
 clear hb1 T1
 have TH1 := Lib.hid (inHas_any HI1.out HWW.out ⟨#[40]⟩)
 rw [show isIn T i none (⟨#[40]⟩ : ByteArray).data.toList = false from HH.out] at TH1
 go_wp2_with fail
 refine (TH1.out).mono ?_
 rintro e' w2 ⟨rfl, hi2, hn2⟩
 have HI2 := Lib.hid (show InAt T E w2 rb A c (i) none from hi2)
 have HN2 := Lib.hid (HN1.out.trans hn2)
 have HZ2 := Lib.hid (own7_only HZ1.out hn2 (fun e => by have := HLT.out; have e' : w.heap.size = rb := e; omega))
 clear hi2 hn2 TH1
 have TH2 := Lib.hid (inHas_any HI2.out HWW.out ⟨#[108, 101, 110]⟩)
 rw [show isIn T i none (⟨#[108, 101, 110]⟩ : ByteArray).data.toList = false from HHL.out] at TH2
 go_wp2_with fail
 refine (TH2.out).mono ?_
 rintro e' w3 ⟨rfl, hi3, hn3⟩
 have HI3 := Lib.hid (show InAt T E w3 rb A c (i) none from hi3)
 have HN3 := Lib.hid (HN2.out.trans hn3)
 have HZ3 := Lib.hid (own7_only HZ2.out hn3 (fun e => by have := HLT.out; have e' : w.heap.size = rb := e; omega))
 clear hi3 hn3 TH2
 have TH3 := Lib.hid (inHas_any HI3.out HWW.out ⟨#[105, 102]⟩)
 rw [show isIn T i none (⟨#[105, 102]⟩ : ByteArray).data.toList = true from HHF.out] at TH3
 go_wp2_with fail
 refine (TH3.out).mono ?_
 rintro e' w4 ⟨rfl, hi4, hn4⟩
 have HI4 := Lib.hid (show InAt T E w4 rb A c (i + 1) none from hi4)
 have HN4 := Lib.hid (HN3.out.trans hn4)
 have HZ4 := Lib.hid (own7_only HZ3.out hn4 (fun e => by have := HLT.out; have e' : w.heap.size = rb := e; omega))
 clear hi4 hn4 TH3
 obtain ⟨wp, hwp, hop, hbp⟩ : ∃ wp, w4.alloc (.cells #[.string ⟨#[105, 102]⟩, .string ⟨#[]⟩, .int .i64 0, .int .i64 0, .string ⟨#[]⟩, .slice none 0 0, .int .i64 (atT T E i)] 26) = wp ∧ Own7 wp w4.heap.size (.mk (mkB wIf) ⟨#[]⟩ noVal none 0 [] (atT T E i)) ∧ Below w4.heap.size w4 wp := ⟨_, rfl, own7_new w4 (.mk (mkB wIf) ⟨#[]⟩ noVal none 0 [] (atT T E i)), belowNew' _ _⟩
 have HARP := Lib.hid (show ArIn T E rb A c w wIf (atT T E i) w4.heap.size 0 (i + 1) none none 0 [] wp from ⟨rfl, hop, World.ownsRow_nil _ _ _ _, (fun y hy => by cases hy), HI4.out.keep hbp, HN4.out.trans (.of_below hbp), HZ4.out.keep hbp, HZ4.out.lt, HLT.out, HOLD.out⟩)
 have bd := run_opp ⟨#[105, 102]⟩ (atT T E i)
 have T5 := Lib.hid (inNeed_any HARP.out.rd HWW.out ⟨#[40]⟩)
 have HWP := Lib.hid hwp
 clear hwp hop hbp
 go_wp2_with (first | rw [HWP.out])
 generalize w4.heap.size = b7 at HARP ⊢
 refine (T5.out).mono ?_
 rintro e' wq ⟨rfl, hiq, hnq⟩
 have HARQ := Lib.hid (HARP.out.to hnq hiq)
 clear hiq hnq T5 bd HWP
 go_wp2_with fail
 go_loopw [8] (fun n wr => ∃ (k j : Nat) (st : Option Nat) (A' : Option Addr) (c' : Nat) (ys : List Ex), n = .int .i64 k ∧ k ≤ 3 ∧ ArS T E wIf (atT T E i) 3 i r (strips ys) j st ∧ ArIn T E rb A c w wIf (atT T E i) b7 k j st A' c' ys wr) (fun n _ => 3 - (intOf n).toNat)
 case atStart => exact ⟨0, _, _, none, 0, [], rfl, Nat.zero_le _, HST.out, HARQ.out⟩
 case round =>
  obtain ⟨k, j, st, A', c', ys, rfl, hk, hs, ha⟩ := hrel
  have HAR := Lib.hid ha
  have HAS := Lib.hid hs
  have HLS := Lib.hid (show (strips ys).length = k by rw [strips_len]; exact ha.len)
  clear ha hs
  by_cases hkm : k < 3
  ·by_cases hk0 : 0 < k
   ·have T6 := Lib.hid (inNeed_any HAR.out.rd HWW.out ⟨#[44]⟩)
    have HNXX := Lib.hid (show ∀ j2 st2, j2 = needI T j st wComma → st2 = needB T E j st wComma → _ from fun j2 st2 e1 e2 => arS_next HAS.out (by rw [HLS.out]; exact hkm) (j' := j2) (st' := st2) (Or.inr ⟨fun e => by have := HLS.out; rw [e] at this; simp at this; omega, e1, e2⟩))
    go_wp2_with fail
    refine (T6.out).mono ?_
    rintro e' wx ⟨rfl, hix, hnx⟩
    obtain ⟨j2, hj2⟩ : ∃ j2, needI T j st wComma = j2 := ⟨_, rfl⟩
    obtain ⟨st2, hst2⟩ : ∃ st2, needB T E j st wComma = st2 := ⟨_, rfl⟩
    have hix' : InAt T E wx rb A c j2 st2 := by rw [← hj2, ← hst2]; exact hix
    have HAX := Lib.hid (HAR.out.to hnx hix')
    have HNX := Lib.hid (HNXX.out j2 st2 hj2.symm hst2.symm)
    clear hix hix' hnx T6 hj2 hst2 HNXX
    obtain ⟨r2, hr2, hj2, haf⟩ := HNX.out
    have HAF := Lib.hid haf
    have T7 := Lib.hid (HIH.out j2 st2 r2 (fun e => by have := hj2 e; omega) hr2 wx HAX.out.rd)
    clear hr2 hj2 haf
    go_wp2_with fail
    refine (T7.out).mono ?_
    rintro e' wy ⟨y, j3, st3, rfl, hsy, hiy, hny, hry⟩
    obtain ⟨wa, hwa, hoa, hba, -⟩ := box_ex wy y
    have hbb := belowNew' wa (.cells #[.string y.op, .string y.name, .int .i64 y.val.type, .int .i64 y.val.n, .string y.val.s, .slice y.A y.args.length y.c, .int .i64 y.pos] 26)
    have hrow : (wa.alloc (.cells #[.string y.op, .string y.name, .int .i64 y.val.type, .int .i64 y.val.n, .string y.val.s, .slice y.A y.args.length y.c, .int .i64 y.pos] 26)).heap[wa.heap.size]? = some (.cells (exsCells [y]).toArray 26 (0, 0)) := heap_alloc_new wa _
    obtain ⟨wb, hwb⟩ : ∃ wb, wa.alloc (.cells #[.string y.op, .string y.name, .int .i64 y.val.type, .int .i64 y.val.n, .string y.val.s, .slice y.A y.args.length y.c, .int .i64 y.pos] 26) = wb := ⟨_, rfl⟩
    rw [hwb] at hbb hrow
    have hyb : Below wy.heap.size wy wb := below_step hba hbb
    have HAA := Lib.hid ((HAX.out.to hny hiy).to (.of_below hba) (hiy.keep hba))
    have HAB := Lib.hid ((HAX.out.to hny hiy).to (.of_below hyb) (hiy.keep hyb))
    have HAS2 := Lib.hid (HAF.out y j3 st3 HAX.out.rd.le hry)
    have c5 := HAA.out.cell
    have hl7 := HAA.out.own.lt
    obtain ⟨x0, x1, x2, x3, x4, x5, x6⟩ := hoa.cells
    have hla := hoa.lt
    have HMORE := Lib.hid (show ∀ g cap wf, wf.ownsRow (b7 + 1) 26 7 (.slice (some ⟨g, 0, none⟩) (k + 1) cap) (k + 1) (exsCells ys ++ exsCells [y]) → wb.grownBy wf (Value.slice A' k c').ownBlock → ((Value.slice A' k c').ownBlock = some g ∨ g = wb.heap.size) → wf.cell? ⟨b7, 5, none⟩ = some (.slice A' k c') ∧ wf.frozen? ⟨b7, 5, none⟩ = false ∧ ArIn T E rb A c w wIf (atT T E i) b7 (k + 1) j3 st3 (some ⟨g, 0, none⟩) cap (ys ++ [y]) (wf.setCell ⟨b7, 5, none⟩ (.slice (some ⟨g, 0, none⟩) (k + 1) cap)) from fun g cap wf h1 h2 h3 => HAX.out.more hny hiy hsy hyb h1 h2 h3)
    have HROW := Lib.hid hrow
    have HWA := Lib.hid hwa
    have HWB := Lib.hid hwb
    clear hsy hiy hny hry hwa hoa hba hbb hrow hwb hyb T7
    unfold exV
    go_wp2_with (first
     | rw [HWA.out] | rw [HWB.out]
     | (at_builtin; refine wpList_append_ex rfl (.tmp 46) (.tmp 48) rfl (v := .slice A' k c') (n := k) (b := wa.heap.size) (c := 1) (y := y) rfl rfl HAB.out.row HAB.out.own.lt HROW.out (by omega) ?_; intro g cap wf hown hgr hat; obtain ⟨q1, q2, hmr⟩ := HMORE.out g cap wf hown hgr hat; have HMR := Lib.hid hmr; clear hown hgr hat hmr))
    generalize wf.setCell ⟨b7, 5, none⟩ (.slice (some ⟨g, 0, none⟩) (k + 1) cap) = wg at HMR ⊢
    go_roundw
    case rel => exact ⟨k + 1, j3, st3, _, _, ys ++ [y], by go_num, by omega, by rw [strips_map, List.map_append, ← strips_map]; exact HAS2.out, HMR.out⟩
    case measure => simp [intOf]; omega
   ·have HNX := Lib.hid (arS_next HAS.out (by rw [HLS.out]; exact hkm) (j' := j) (st' := st) (Or.inl ⟨List.eq_nil_of_length_eq_zero (by rw [HLS.out]; omega), rfl, rfl⟩))
    have HAX := HAR
    go_wp2_with fail
    generalize wr = wx at HAX ⊢
    generalize j = j2 at HAX HNX
    generalize st = st2 at HAX HNX
    obtain ⟨r2, hr2, hj2, haf⟩ := HNX.out
    have HAF := Lib.hid haf
    have T7 := Lib.hid (HIH.out j2 st2 r2 (fun e => by have := hj2 e; omega) hr2 wx HAX.out.rd)
    clear hr2 hj2 haf
    go_wp2_with fail
    refine (T7.out).mono ?_
    rintro e' wy ⟨y, j3, st3, rfl, hsy, hiy, hny, hry⟩
    obtain ⟨wa, hwa, hoa, hba, -⟩ := box_ex wy y
    have hbb := belowNew' wa (.cells #[.string y.op, .string y.name, .int .i64 y.val.type, .int .i64 y.val.n, .string y.val.s, .slice y.A y.args.length y.c, .int .i64 y.pos] 26)
    have hrow : (wa.alloc (.cells #[.string y.op, .string y.name, .int .i64 y.val.type, .int .i64 y.val.n, .string y.val.s, .slice y.A y.args.length y.c, .int .i64 y.pos] 26)).heap[wa.heap.size]? = some (.cells (exsCells [y]).toArray 26 (0, 0)) := heap_alloc_new wa _
    obtain ⟨wb, hwb⟩ : ∃ wb, wa.alloc (.cells #[.string y.op, .string y.name, .int .i64 y.val.type, .int .i64 y.val.n, .string y.val.s, .slice y.A y.args.length y.c, .int .i64 y.pos] 26) = wb := ⟨_, rfl⟩
    rw [hwb] at hbb hrow
    have hyb : Below wy.heap.size wy wb := below_step hba hbb
    have HAA := Lib.hid ((HAX.out.to hny hiy).to (.of_below hba) (hiy.keep hba))
    have HAB := Lib.hid ((HAX.out.to hny hiy).to (.of_below hyb) (hiy.keep hyb))
    have HAS2 := Lib.hid (HAF.out y j3 st3 HAX.out.rd.le hry)
    have c5 := HAA.out.cell
    have hl7 := HAA.out.own.lt
    obtain ⟨x0, x1, x2, x3, x4, x5, x6⟩ := hoa.cells
    have hla := hoa.lt
    have HMORE := Lib.hid (show ∀ g cap wf, wf.ownsRow (b7 + 1) 26 7 (.slice (some ⟨g, 0, none⟩) (k + 1) cap) (k + 1) (exsCells ys ++ exsCells [y]) → wb.grownBy wf (Value.slice A' k c').ownBlock → ((Value.slice A' k c').ownBlock = some g ∨ g = wb.heap.size) → wf.cell? ⟨b7, 5, none⟩ = some (.slice A' k c') ∧ wf.frozen? ⟨b7, 5, none⟩ = false ∧ ArIn T E rb A c w wIf (atT T E i) b7 (k + 1) j3 st3 (some ⟨g, 0, none⟩) cap (ys ++ [y]) (wf.setCell ⟨b7, 5, none⟩ (.slice (some ⟨g, 0, none⟩) (k + 1) cap)) from fun g cap wf h1 h2 h3 => HAX.out.more hny hiy hsy hyb h1 h2 h3)
    have HROW := Lib.hid hrow
    have HWA := Lib.hid hwa
    have HWB := Lib.hid hwb
    clear hsy hiy hny hry hwa hoa hba hbb hrow hwb hyb T7
    unfold exV
    go_wp2_with (first
     | rw [HWA.out] | rw [HWB.out]
     | (at_builtin; refine wpList_append_ex rfl (.tmp 46) (.tmp 48) rfl (v := .slice A' k c') (n := k) (b := wa.heap.size) (c := 1) (y := y) rfl rfl HAB.out.row HAB.out.own.lt HROW.out (by omega) ?_; intro g cap wf hown hgr hat; obtain ⟨q1, q2, hmr⟩ := HMORE.out g cap wf hown hgr hat; have HMR := Lib.hid hmr; clear hown hgr hat hmr))
    generalize wf.setCell ⟨b7, 5, none⟩ (.slice (some ⟨g, 0, none⟩) (k + 1) cap) = wg at HMR ⊢
    go_roundw
    case rel => exact ⟨k + 1, j3, st3, _, _, ys ++ [y], by go_num, by omega, by rw [strips_map, List.map_append, ← strips_map]; exact HAS2.out, HMR.out⟩
    case measure => simp [intOf]; omega
  ·have T8 := Lib.hid (inNeed_any HAR.out.rd HWW.out ⟨#[41]⟩)
   have hkk : k = 3 := by omega
   have HEND := Lib.hid (arS_end (A' := A') (c' := c') HAS.out (by rw [HLS.out]; exact hkk) (rfl : strips ys = strips ys))
   have HK := Lib.hid (show 0 < k by omega)
   clear hkk
   go_wp2_with fail
   refine (T8.out).mono ?_
   rintro e' wx ⟨rfl, hix, hnx⟩
   have HAX := Lib.hid (HAR.out.to hnx hix)
   obtain ⟨t0, t1, t2, t3, t4, t5, t6⟩ := HAX.out.own.cells
   have hlb := HAX.out.own.lt
   have HRES := Lib.hid HAX.out.res
   clear hix hnx T8
   go_wp2_with (first
    | (refine wpList_put7 rfl (.tmp 2) (.tmp 53) rfl (X := (.mk (mkB wIf) ⟨#[]⟩ noVal A' c' ys (atT T E i))) HRES.out rfl (by rfl) ?_; intro wl hzl hol; have HZL := Lib.hid hzl; have HOL := Lib.hid hol; clear hzl hol))
   obtain ⟨o0, o1, o2, o3, o4, o5, o6⟩ := HZL.out.cells
   refine bodyPost_ret (v := exV (.mk (mkB wIf) ⟨#[]⟩ noVal A' c' ys (atT T E i))) ?_ rfl ?_
   ·simp [results, Tryz.results97, go_sem, o0, o1, o2, o3, o4, o5, o6, exV]
   ·exact HAX.out.says HK.out (by decide) (fits_at HWW.out i) HEND.out HOL.out
set_option maxHeartbeats 8000000 in
set_option maxRecDepth 100000 in
theorem io_val {T : List Tok} {E : Nat} (hW : Words T E) {i : Nat} (h : isT T i wOpen = false) (hl : isT T i wLen = false) (hf : isT T i wIf = false) {v : Val} (hv : valT T i = some v) (w : World) (rb : Nat) (A : Option Addr) (c : Nat) (hI : InAt T E w rb A c i none) :
  Calls Tryz.prog 97 #[.pointer (some ⟨rb, 0, none⟩)] w (ISays T E rb A c (.ok (valEx v (atT T E i), i + 1)) w) := by
 have HWF := Lib.hid (show v.wf by have hx := val_some hW hv; rw [hx.2.1]; exact readP_wf hx.2.2.1)
 have hvs := val_some hW hv
 clear hv
 obtain ⟨w0, hw0, ho0, hb0⟩ := box_zeroE w
 have hi0 := hI.keep hb0
 have HW0 := Lib.hid hw0
 have HI0 := Lib.hid hi0
 have HZ0 := Lib.hid ho0
 have HN0 := Lib.hid (Only.of_below (S := fun k => k = rb) hb0)
 have HLT := Lib.hid hI.lt
 have HOLD := Lib.hid (show 0 < T.length → ∀ ad, A = some ad → ad.block < w.heap.size from hI.old)
 have T1 := Lib.hid (inAt_any hi0 hW)
 have HWW := Lib.hid hW
 have HH := Lib.hid (show isIn T i none (⟨#[40]⟩ : ByteArray).data.toList = false from h)
 have HHL := Lib.hid (show isIn T i none (⟨#[108, 101, 110]⟩ : ByteArray).data.toList = false from hl)
 have HHF := Lib.hid (show isIn T i none (⟨#[105, 102]⟩ : ByteArray).data.toList = false from hf)
 have hcap : T.length ≤ c := hI.toks.2.2.1
 have hmax : c ≤ maxLen := hI.toks.2.2.2.1
 unfold maxLen at hmax
 have hlen := hW.len
 have hle := hI.le
 have HV := Lib.hid hvs
 clear hvs
 clear hI hw0 hi0 ho0 hb0 h hl hf hW
 go_enter Tryz.func97, Tryz.ntmps97
 go_wp2_with (first | rw [HW0.out])
 refine (T1.out).mono ?_
 rintro e' w1 ⟨rfl, hb1⟩
 have HI1 := Lib.hid (HI0.out.keep hb1)
 have HN1 := Lib.hid (HN0.out.trans (.of_below hb1))
 have HZ1 := Lib.hid (HZ0.out.keep hb1)
 clear hb1 T1
 have TH1 := Lib.hid (inHas_any HI1.out HWW.out ⟨#[40]⟩)
 rw [show isIn T i none (⟨#[40]⟩ : ByteArray).data.toList = false from HH.out] at TH1
 go_wp2_with fail
 refine (TH1.out).mono ?_
 rintro e' w2 ⟨rfl, hi2, hn2⟩
 have HI2 := Lib.hid (show InAt T E w2 rb A c (i) none from hi2)
 have HN2 := Lib.hid (HN1.out.trans hn2)
 have HZ2 := Lib.hid (own7_only HZ1.out hn2 (fun e => by have := HLT.out; have e' : w.heap.size = rb := e; omega))
 clear hi2 hn2 TH1
 have TH2 := Lib.hid (inHas_any HI2.out HWW.out ⟨#[108, 101, 110]⟩)
 rw [show isIn T i none (⟨#[108, 101, 110]⟩ : ByteArray).data.toList = false from HHL.out] at TH2
 go_wp2_with fail
 refine (TH2.out).mono ?_
 rintro e' w3 ⟨rfl, hi3, hn3⟩
 have HI3 := Lib.hid (show InAt T E w3 rb A c (i) none from hi3)
 have HN3 := Lib.hid (HN2.out.trans hn3)
 have HZ3 := Lib.hid (own7_only HZ2.out hn3 (fun e => by have := HLT.out; have e' : w.heap.size = rb := e; omega))
 clear hi3 hn3 TH2
 have TH3 := Lib.hid (inHas_any HI3.out HWW.out ⟨#[105, 102]⟩)
 rw [show isIn T i none (⟨#[105, 102]⟩ : ByteArray).data.toList = false from HHF.out] at TH3
 go_wp2_with fail
 refine (TH3.out).mono ?_
 rintro e' w4 ⟨rfl, hi4, hn4⟩
 have HI4 := Lib.hid (show InAt T E w4 rb A c (i) none from hi4)
 have HN4 := Lib.hid (HN3.out.trans hn4)
 have HZ4 := Lib.hid (own7_only HZ3.out hn4 (fun e => by have := HLT.out; have e' : w.heap.size = rb := e; omega))
 clear hi4 hn4 TH3
 have hi := HV.out.1
 obtain ⟨nl, hnl⟩ : ∃ nl, T.length = nl := ⟨_, rfl⟩
 have HNL := Lib.hid hnl
 obtain ⟨g, o, x, hA, hg, hx, t0, t1, t2⟩ := HI4.out.toks.at_ (k := i) hi
 subst hA
 have HTOK := Lib.hid (show ∀ w', Below w4.heap.size w4 w' → w'.cell? ⟨rb, 0, none⟩ = some (.slice (some ⟨g, o, none⟩) nl c) ∧ w'.cell? ⟨rb, 1, none⟩ = some (.int .i64 i) ∧ w'.cell? ⟨rb, 3, none⟩ = some (.int .i64 (-1)) ∧ w'.cell? ⟨g, o + i * 3, none⟩ = some (.int .i64 (kindT T i)) ∧ w'.cell? ⟨g, o + i * 3 + 1, none⟩ = some (.string ⟨(textT T i).toArray⟩) ∧ w'.cell? ⟨g, o + i * 3 + 2, none⟩ = some (.int .i64 (atT T E i)) from fun w' hb => by
  obtain ⟨c0, c1, c2, c3⟩ := (HI4.out.keep hb).cells
  rw [hnl] at c0
  refine ⟨c0, c1, c3, ?_, ?_, ?_⟩
  ·rw [hb.cell (p := ⟨g, o + i * 3, none⟩) hg, t0]; unfold kindT; rw [hx]
  ·rw [hb.cell (p := ⟨g, o + i * 3 + 1, none⟩) hg, t1]; unfold textT; rw [hx]
  ·rw [hb.cell (p := ⟨g, o + i * 3 + 2, none⟩) hg, t2]; unfold atT; rw [hx])
 rw [hnl] at hcap hlen hle hi
 have g1 : decide ((i : Int) < (nl : Int)) = true := decide_eq_true (by omega)
 have g2 : decide ((-1 : Int) < 0) = true := rfl
 obtain ⟨c0, c1, c3, k0, k1, k2⟩ := HTOK.out w4 (Below.refl _ _)
 clear t0 t1 t2 hx hnl hg
 go_wp2_with fail
 go_quiet (fail)
 have hb5 : Below w4.heap.size w4 (w4.drewN nq) := below_drewN (Below.refl _ _) nq
 generalize w4.drewN nq = w5 at hb5 ⊢
 have HI5 := Lib.hid (HI4.out.keep hb5)
 have HN5 := Lib.hid (HN4.out.trans (.of_below hb5))
 have HZ5 := Lib.hid (HZ4.out.keep hb5)
 have HB45 := Lib.hid hb5
 clear c0 c1 c3 k0 k1 k2 hb5
 go_wp2_with fail
 refine wp_region_held (S := fun w' => Below w4.heap.size w4 w') (by kernel_rfl) ?_
 change wpAnyH _ _ _ _ _ _ _ _ (World.drew w5)
 have HSS : (fun w' : World => Below w4.heap.size w4 w') (World.drew w5) := HB45.out.drew
 refine takeH (i := 0) (d := some 71) (v := .pointer (some ⟨rb, 0, none⟩)) rfl rfl (by kernel_rfl) (by kernel_rfl) (by kernel_rfl) (fun _ _ _ h => h) (Or.inl ⟨by rfl, fun w' hS => by obtain ⟨c0, c1, c3, k0, k1, k2⟩ := HTOK.out w' hS; first | (go_simp; done) | (go_simp; omega) | (go_simp; intro h; omega)⟩) HSS ?_
 simp only [Act.put, sA, sZ, sS]
 refine takeH (i := 1) (d := some 72) (v := .pointer (some ⟨rb, 0, none⟩)) rfl rfl (by kernel_rfl) (by kernel_rfl) (by kernel_rfl) (fun _ _ _ h => h) (Or.inl ⟨by rfl, fun w' hS => by obtain ⟨c0, c1, c3, k0, k1, k2⟩ := HTOK.out w' hS; first | (go_simp; done) | (go_simp; omega) | (go_simp; intro h; omega)⟩) HSS ?_
 simp only [Act.put, sA, sZ, sS]
 refine takeH (i := 2) (d := some 73) (v := .pointer (some ⟨rb, 0, none⟩)) rfl rfl (by kernel_rfl) (by kernel_rfl) (by kernel_rfl) (fun _ _ _ h => h) (Or.inl ⟨by rfl, fun w' hS => by obtain ⟨c0, c1, c3, k0, k1, k2⟩ := HTOK.out w' hS; first | (go_simp; done) | (go_simp; omega) | (go_simp; intro h; omega)⟩) HSS ?_
 simp only [Act.put, sA, sZ, sS]
 refine takeH (i := 3) (d := some 74) (v := .slice (some ⟨g, o, none⟩) nl c) rfl rfl (by kernel_rfl) (by kernel_rfl) (by kernel_rfl) (fun _ _ _ h => h) (Or.inl ⟨by rfl, fun w' hS => by obtain ⟨c0, c1, c3, k0, k1, k2⟩ := HTOK.out w' hS; first | (go_simp; done) | (go_simp; omega) | (go_simp; intro h; omega)⟩) HSS ?_
 simp only [Act.put, sA, sZ, sS]
 refine takeH (i := 4) (d := some 75) (v := .pointer (some ⟨rb, 0, none⟩)) rfl rfl (by kernel_rfl) (by kernel_rfl) (by kernel_rfl) (fun _ _ _ h => h) (Or.inl ⟨by rfl, fun w' hS => by obtain ⟨c0, c1, c3, k0, k1, k2⟩ := HTOK.out w' hS; first | (go_simp; done) | (go_simp; omega) | (go_simp; intro h; omega)⟩) HSS ?_
 simp only [Act.put, sA, sZ, sS]
 refine takeH (i := 5) (d := some 76) (v := .pointer (some ⟨rb, 0, none⟩)) rfl rfl (by kernel_rfl) (by kernel_rfl) (by kernel_rfl) (fun _ _ _ h => h) (Or.inl ⟨by rfl, fun w' hS => by obtain ⟨c0, c1, c3, k0, k1, k2⟩ := HTOK.out w' hS; first | (go_simp; done) | (go_simp; omega) | (go_simp; intro h; omega)⟩) HSS ?_
 simp only [Act.put, sA, sZ, sS]
 refine takeH (i := 6) (d := some 77) (v := .pointer (some ⟨rb, 1, none⟩)) rfl rfl (by kernel_rfl) (by kernel_rfl) (by kernel_rfl) (fun _ _ _ h => h) (Or.inl ⟨by rfl, fun w' hS => by obtain ⟨c0, c1, c3, k0, k1, k2⟩ := HTOK.out w' hS; first | (go_simp; done) | (go_simp; omega) | (go_simp; intro h; omega)⟩) HSS ?_
 simp only [Act.put, sA, sZ, sS]
 refine takeH (i := 7) (d := some 78) (v := .int .i64 i) rfl rfl (by kernel_rfl) (by kernel_rfl) (by kernel_rfl) (fun _ _ _ h => h) (Or.inl ⟨by rfl, fun w' hS => by obtain ⟨c0, c1, c3, k0, k1, k2⟩ := HTOK.out w' hS; first | (go_simp; done) | (go_simp; omega) | (go_simp; intro h; omega)⟩) HSS ?_
 simp only [Act.put, sA, sZ, sS]
 refine takeH (i := 8) (d := some 79) (v := .pointer (some ⟨g, o + i * 3, none⟩)) rfl rfl (by kernel_rfl) (by kernel_rfl) (by kernel_rfl) (fun _ _ _ h => h) (Or.inl ⟨by rfl, fun w' hS => by obtain ⟨c0, c1, c3, k0, k1, k2⟩ := HTOK.out w' hS; first | (go_simp; done) | (go_simp; omega) | (go_simp; intro h; omega)⟩) HSS ?_
 simp only [Act.put, sA, sZ, sS]
 refine takeH (i := 9) (d := some 80) (v := .agg #[.int .i64 (kindT T i), .string ⟨(textT T i).toArray⟩, .int .i64 (atT T E i)]) rfl rfl (by kernel_rfl) (by kernel_rfl) (by kernel_rfl) (fun _ _ _ h => h) (Or.inl ⟨by rfl, fun w' hS => by obtain ⟨c0, c1, c3, k0, k1, k2⟩ := HTOK.out w' hS; first | (go_simp; done) | (go_simp; omega) | (go_simp; intro h; omega)⟩) HSS ?_
 simp only [Act.put, sA, sZ, sS]
 refine wpAnyH_all (rs := [10]) (by kernel_rfl) (by simp) (fun jj hj => ?_)
 obtain rfl : jj = 10 := by simpa using hj
 have hb6 := belowNew' (World.drew w5) (.cells #[.int .i64 0, .string ⟨#[]⟩, .int .i64 0] 95)
 have ho6 : Own3T ((World.drew w5).alloc (.cells #[.int .i64 0, .string ⟨#[]⟩, .int .i64 0] 95)) w5.heap.size 0 ⟨#[]⟩ 0 := own3t_new (World.drew w5) _ _ _
 refine wpOp_valueD (d := some 10) rfl rfl (by rfl) (v := .pointer (some ⟨w5.heap.size, 0, none⟩)) (w' := (World.drew w5).alloc (.cells #[.int .i64 0, .string ⟨#[]⟩, .int .i64 0] 95)) (by go_simp) ?_
 generalize (World.drew w5).alloc (.cells #[.int .i64 0, .string ⟨#[]⟩, .int .i64 0] 95) = w6 at hb6 ho6 ⊢
 have hb56 : Below w5.heap.size w5 w6 := (Below.refl w5.heap.size w5).drew.trans hb6
 have hb46 := below_step HB45.out hb56
 refine ⟨hb46, ?_⟩
 simp only [Act.put, sA, sZ, sS]
 refine wpAnyH_all (rs := [11]) (by kernel_rfl) (by simp) (fun jj hj => ?_)
 obtain rfl : jj = 11 := by simpa using hj
 obtain ⟨z0, z1, z2⟩ := ho6.cells
 obtain ⟨f0, f1, f2⟩ := ho6.frees
 have hb7 : Below w5.heap.size w5 (((w6.setCell ⟨w5.heap.size, 0, none⟩ (.int .i64 (kindT T i))).setCell ⟨w5.heap.size, 1, none⟩ (.string ⟨(textT T i).toArray⟩)).setCell ⟨w5.heap.size, 2, none⟩ (.int .i64 (atT T E i))) := ((hb56.setCell (p := ⟨w5.heap.size, 0, none⟩) (Nat.le_refl _) _).setCell (p := ⟨w5.heap.size, 1, none⟩) (Nat.le_refl _) _).setCell (p := ⟨w5.heap.size, 2, none⟩) (Nat.le_refl _) _
 have ho7 := own3t_set ho6 (kindT T i) ⟨(textT T i).toArray⟩ (atT T E i)
 refine wpOp_skip rfl (by rfl) (w' := ((w6.setCell ⟨w5.heap.size, 0, none⟩ (.int .i64 (kindT T i))).setCell ⟨w5.heap.size, 1, none⟩ (.string ⟨(textT T i).toArray⟩)).setCell ⟨w5.heap.size, 2, none⟩ (.int .i64 (atT T E i))) (by go_simp) ?_
 generalize ((w6.setCell ⟨w5.heap.size, 0, none⟩ (.int .i64 (kindT T i))).setCell ⟨w5.heap.size, 1, none⟩ (.string ⟨(textT T i).toArray⟩)).setCell ⟨w5.heap.size, 2, none⟩ (.int .i64 (atT T E i)) = w7 at hb7 ho7 ⊢
 refine ⟨below_step HB45.out hb7, ?_⟩
 refine wpAnyH_done (by kernel_rfl) ?_ _
 have HI7 := Lib.hid (HI5.out.keep hb7)
 have HN7 := Lib.hid (HN5.out.trans (.of_below hb7))
 have HZ7 := Lib.hid (HZ5.out.keep hb7)
 have HT := Lib.hid ho7
 obtain ⟨tx, htx⟩ : ∃ tx, (⟨(textT T i).toArray⟩ : ByteArray) = tx := ⟨_, rfl⟩
 have HTX := Lib.hid htx
 rw [htx] at HT ⊢
 clear htx HTOK
 generalize w5.heap.size = b10 at HT ⊢
 obtain ⟨d0, d1, d2⟩ := HT.out.cells
 have hld := HT.out.lt
 clear hb6 ho6 hb56 hb46 z0 z1 z2 f0 f1 f2 hb7 ho7 HSS
 have HTXT := Lib.hid (show ∀ s : List UInt8, isT T i s = ((kindT T i == 4 || kindT T i == 1) && (textT T i == s)) from fun s => isT_eq T i s)
 have HXX := Lib.hid (show ∀ s : List UInt8, (tx.toList == s) = (textT T i == s) from fun s => by rw [Lib.toList_data, ← HTX.out])
 have HSGN := Lib.hid (show ∀ s, s = tTrue ∨ s = tFalse → isT T i s = true → kindT T i = 1 from fun s hs h => by
  obtain ⟨t', ht', hk, htx⟩ := isT_some h
  have e2 : kindT T i = t'.kind := by unfold kindT; rw [ht']
  rcases hk with hk | hk
  ·have := HWW.out.sign t' (List.mem_of_getElem? ht') hk
   rw [htx] at this
   rcases hs with rfl | rfl
   ·exact absurd this (by decide)
   ·exact absurd this (by decide)
  ·rw [e2, hk])
 rcases HV.out.2.2.2.2 with hk | ⟨hk2, hk⟩ | ⟨hk2, hk3, hk⟩ | ⟨hk2, hk3, hkt, hk⟩
 ·have q2 : (kindT T i == 2) = true := beq_iff_eq.2 hk
  clear hk
  have T8 := Lib.hid (rread_any ⟨(textT T i).toArray⟩ (by have := HV.out.2.2.2.1; have e : (⟨(textT T i).toArray⟩ : ByteArray).size = (textT T i).length := rfl; unfold maxLen; omega) w7)
  unfold readSays at T8
  replace T8 : Hid (Calls Tryz.prog 95 #[.string ⟨(textT T i).toArray⟩] w7 fun e w' => e = .returned (.tuple #[.agg #[.int .i64 v.type, .int .i64 v.n, .string v.s], .int .i64 0]) ∧ Below w7.heap.size w7 w') := by
   have h1 : (readP (⟨(textT T i).toArray⟩ : ByteArray).data.toList).1 = v := HV.out.2.1.symm
   have h2 : (readP (⟨(textT T i).toArray⟩ : ByteArray).data.toList).2 = 0 := HV.out.2.2.1
   rw [h1, h2] at T8
   exact T8
  rw [HTX.out] at T8
  go_wp2_with fail
  refine (T8.out).mono ?_
  rintro e' w8 ⟨rfl, hb8⟩
  obtain ⟨w9, hw9⟩ : ∃ w9, w8.alloc (.cells #[.int .i64 v.type, .int .i64 v.n, .string v.s] 23) = w9 := ⟨_, rfl⟩
  have hb9 : Below w8.heap.size w8 w9 := by rw [← hw9]; exact belowNew' _ _
  have ho9 : w9.heap[w8.heap.size]? = some (.cells #[.int .i64 v.type, .int .i64 v.n, .string v.s] 23 (0, 0)) := by rw [← hw9]; exact heap_alloc_new w8 _
  have hb79 := below_step hb8 hb9
  have hi9 := HI7.out.keep hb79
  obtain ⟨hi10, hn10⟩ := hi9.next HV.out.1
  obtain ⟨w10, hw10⟩ : ∃ w10, w9.setCell ⟨rb, 1, none⟩ (.int .i64 ((i : Int) + 1)) = w10 := ⟨_, rfl⟩
  rw [hw10] at hi10 hn10
  have ho10 : w10.heap[w8.heap.size]? = some (.cells #[.int .i64 v.type, .int .i64 v.n, .string v.s] 23 (0, 0)) := (hn10.block _ (Array.getElem?_eq_some_iff.1 ho9).1 (fun e => by have := HI7.out.lt; have := hb8.size; have e' : w8.heap.size = rb := e; omega)).trans ho9
  have HI10 := Lib.hid hi10
  have HN10 := Lib.hid ((HN7.out.trans (.of_below hb79)).trans hn10)
  have HZ10 := Lib.hid (own7_only (HZ7.out.keep hb79) hn10 (fun e => by have := HLT.out; have e' : w.heap.size = rb := e; omega))
  obtain ⟨c0, c1, c2, c3⟩ := hi9.cells
  obtain ⟨f1, f3⟩ := hi9.frees
  obtain ⟨v0, v1, v2⟩ := box3 ho10
  have hlv : w8.heap.size < w10.heap.size := (Array.getElem?_eq_some_iff.1 ho10).1
  have hw1r : IntKind.i64.wrap ((i : Int) + 1) = (i : Int) + 1 := IntWalk.i64_in _ (by omega)
  have bd := run_val v (atT T E i)
  have HW9 := Lib.hid hw9
  have HW10 := Lib.hid hw10
  clear hb8 hw9 hb9 ho9 hb79 hi9 hi10 hn10 hw10 ho10 T8
  go_wp2_with (first
   | rw [HW9.out] | rw [HW10.out]
   | (refine wpList_put7 rfl (.tmp 2) (.tmp 119) rfl (X := .mk ⟨#[118, 97, 108]⟩ ⟨#[]⟩ v none 0 [] (atT T E i)) HZ10.out rfl (by rfl) ?_; intro wl hzl hol; have HZL := Lib.hid hzl; have HOL := Lib.hid hol; clear hzl hol))
  obtain ⟨o0, o1, o2, o3, o4, o5, o6⟩ := HZL.out.cells
  refine bodyPost_ret (v := exV (.mk ⟨#[118, 97, 108]⟩ ⟨#[]⟩ v none 0 [] (atT T E i))) ?_ rfl ?_
  ·simp [results, Tryz.results97, go_sem, o0, o1, o2, o3, o4, o5, o6, exV]
  ·exact isays_put HN10.out HI10.out (seesS_leaf (S := fun _ => False) (op := ⟨#[118, 97, 108]⟩) (name := ⟨#[]⟩) (show 3 ≤ 400 by decide) (Nat.zero_le _) HWF.out (fits_at HWW.out i)) (fun b hb => hb.elim) ⟨rfl, rfl, by rw [strip_mk]; rfl⟩ HOL.out rfl HLT.out HOLD.out
 ·have q2 : (kindT T i == 2) = false := beq_eq_false_iff_ne.2 hk2
  have q3 : (kindT T i == 3) = true := beq_iff_eq.2 hk
  clear hk hk2
  have T8 := Lib.hid (rread_any ⟨(textT T i).toArray⟩ (by have := HV.out.2.2.2.1; have e : (⟨(textT T i).toArray⟩ : ByteArray).size = (textT T i).length := rfl; unfold maxLen; omega) w7)
  unfold readSays at T8
  replace T8 : Hid (Calls Tryz.prog 95 #[.string ⟨(textT T i).toArray⟩] w7 fun e w' => e = .returned (.tuple #[.agg #[.int .i64 v.type, .int .i64 v.n, .string v.s], .int .i64 0]) ∧ Below w7.heap.size w7 w') := by
   have h1 : (readP (⟨(textT T i).toArray⟩ : ByteArray).data.toList).1 = v := HV.out.2.1.symm
   have h2 : (readP (⟨(textT T i).toArray⟩ : ByteArray).data.toList).2 = 0 := HV.out.2.2.1
   rw [h1, h2] at T8
   exact T8
  rw [HTX.out] at T8
  go_wp2_with fail
  refine (T8.out).mono ?_
  rintro e' w8 ⟨rfl, hb8⟩
  obtain ⟨w9, hw9⟩ : ∃ w9, w8.alloc (.cells #[.int .i64 v.type, .int .i64 v.n, .string v.s] 23) = w9 := ⟨_, rfl⟩
  have hb9 : Below w8.heap.size w8 w9 := by rw [← hw9]; exact belowNew' _ _
  have ho9 : w9.heap[w8.heap.size]? = some (.cells #[.int .i64 v.type, .int .i64 v.n, .string v.s] 23 (0, 0)) := by rw [← hw9]; exact heap_alloc_new w8 _
  have hb79 := below_step hb8 hb9
  have hi9 := HI7.out.keep hb79
  obtain ⟨hi10, hn10⟩ := hi9.next HV.out.1
  obtain ⟨w10, hw10⟩ : ∃ w10, w9.setCell ⟨rb, 1, none⟩ (.int .i64 ((i : Int) + 1)) = w10 := ⟨_, rfl⟩
  rw [hw10] at hi10 hn10
  have ho10 : w10.heap[w8.heap.size]? = some (.cells #[.int .i64 v.type, .int .i64 v.n, .string v.s] 23 (0, 0)) := (hn10.block _ (Array.getElem?_eq_some_iff.1 ho9).1 (fun e => by have := HI7.out.lt; have := hb8.size; have e' : w8.heap.size = rb := e; omega)).trans ho9
  have HI10 := Lib.hid hi10
  have HN10 := Lib.hid ((HN7.out.trans (.of_below hb79)).trans hn10)
  have HZ10 := Lib.hid (own7_only (HZ7.out.keep hb79) hn10 (fun e => by have := HLT.out; have e' : w.heap.size = rb := e; omega))
  obtain ⟨c0, c1, c2, c3⟩ := hi9.cells
  obtain ⟨f1, f3⟩ := hi9.frees
  obtain ⟨v0, v1, v2⟩ := box3 ho10
  have hlv : w8.heap.size < w10.heap.size := (Array.getElem?_eq_some_iff.1 ho10).1
  have hw1r : IntKind.i64.wrap ((i : Int) + 1) = (i : Int) + 1 := IntWalk.i64_in _ (by omega)
  have bd := run_val v (atT T E i)
  have HW9 := Lib.hid hw9
  have HW10 := Lib.hid hw10
  clear hb8 hw9 hb9 ho9 hb79 hi9 hi10 hn10 hw10 ho10 T8
  go_wp2_with (first
   | rw [HW9.out] | rw [HW10.out]
   | (refine wpList_put7 rfl (.tmp 2) (.tmp 119) rfl (X := .mk ⟨#[118, 97, 108]⟩ ⟨#[]⟩ v none 0 [] (atT T E i)) HZ10.out rfl (by rfl) ?_; intro wl hzl hol; have HZL := Lib.hid hzl; have HOL := Lib.hid hol; clear hzl hol))
  obtain ⟨o0, o1, o2, o3, o4, o5, o6⟩ := HZL.out.cells
  refine bodyPost_ret (v := exV (.mk ⟨#[118, 97, 108]⟩ ⟨#[]⟩ v none 0 [] (atT T E i))) ?_ rfl ?_
  ·simp [results, Tryz.results97, go_sem, o0, o1, o2, o3, o4, o5, o6, exV]
  ·exact isays_put HN10.out HI10.out (seesS_leaf (S := fun _ => False) (op := ⟨#[118, 97, 108]⟩) (name := ⟨#[]⟩) (show 3 ≤ 400 by decide) (Nat.zero_le _) HWF.out (fits_at HWW.out i)) (fun b hb => hb.elim) ⟨rfl, rfl, by rw [strip_mk]; rfl⟩ HOL.out rfl HLT.out HOLD.out
 ·have q2 : (kindT T i == 2) = false := beq_eq_false_iff_ne.2 hk2
  have q3 : (kindT T i == 3) = false := beq_eq_false_iff_ne.2 hk3
  have hk1 := HSGN.out _ (Or.inl rfl) hk
  have q1 : (kindT T i == 1) = true := beq_iff_eq.2 hk1
  have q4 : (tx.toList == [116, 114, 117, 101]) = true := by rw [HXX.out]; exact beq_iff_eq.2 (isT_text hk)
  clear hk hk2 hk3 hk1
  have T8 := Lib.hid (rread_any ⟨(textT T i).toArray⟩ (by have := HV.out.2.2.2.1; have e : (⟨(textT T i).toArray⟩ : ByteArray).size = (textT T i).length := rfl; unfold maxLen; omega) w7)
  unfold readSays at T8
  replace T8 : Hid (Calls Tryz.prog 95 #[.string ⟨(textT T i).toArray⟩] w7 fun e w' => e = .returned (.tuple #[.agg #[.int .i64 v.type, .int .i64 v.n, .string v.s], .int .i64 0]) ∧ Below w7.heap.size w7 w') := by
   have h1 : (readP (⟨(textT T i).toArray⟩ : ByteArray).data.toList).1 = v := HV.out.2.1.symm
   have h2 : (readP (⟨(textT T i).toArray⟩ : ByteArray).data.toList).2 = 0 := HV.out.2.2.1
   rw [h1, h2] at T8
   exact T8
  rw [HTX.out] at T8
  go_wp2_with fail
  refine (T8.out).mono ?_
  rintro e' w8 ⟨rfl, hb8⟩
  obtain ⟨w9, hw9⟩ : ∃ w9, w8.alloc (.cells #[.int .i64 v.type, .int .i64 v.n, .string v.s] 23) = w9 := ⟨_, rfl⟩
  have hb9 : Below w8.heap.size w8 w9 := by rw [← hw9]; exact belowNew' _ _
  have ho9 : w9.heap[w8.heap.size]? = some (.cells #[.int .i64 v.type, .int .i64 v.n, .string v.s] 23 (0, 0)) := by rw [← hw9]; exact heap_alloc_new w8 _
  have hb79 := below_step hb8 hb9
  have hi9 := HI7.out.keep hb79
  obtain ⟨hi10, hn10⟩ := hi9.next HV.out.1
  obtain ⟨w10, hw10⟩ : ∃ w10, w9.setCell ⟨rb, 1, none⟩ (.int .i64 ((i : Int) + 1)) = w10 := ⟨_, rfl⟩
  rw [hw10] at hi10 hn10
  have ho10 : w10.heap[w8.heap.size]? = some (.cells #[.int .i64 v.type, .int .i64 v.n, .string v.s] 23 (0, 0)) := (hn10.block _ (Array.getElem?_eq_some_iff.1 ho9).1 (fun e => by have := HI7.out.lt; have := hb8.size; have e' : w8.heap.size = rb := e; omega)).trans ho9
  have HI10 := Lib.hid hi10
  have HN10 := Lib.hid ((HN7.out.trans (.of_below hb79)).trans hn10)
  have HZ10 := Lib.hid (own7_only (HZ7.out.keep hb79) hn10 (fun e => by have := HLT.out; have e' : w.heap.size = rb := e; omega))
  obtain ⟨c0, c1, c2, c3⟩ := hi9.cells
  obtain ⟨f1, f3⟩ := hi9.frees
  obtain ⟨v0, v1, v2⟩ := box3 ho10
  have hlv : w8.heap.size < w10.heap.size := (Array.getElem?_eq_some_iff.1 ho10).1
  have hw1r : IntKind.i64.wrap ((i : Int) + 1) = (i : Int) + 1 := IntWalk.i64_in _ (by omega)
  have bd := run_val v (atT T E i)
  have HW9 := Lib.hid hw9
  have HW10 := Lib.hid hw10
  clear hb8 hw9 hb9 ho9 hb79 hi9 hi10 hn10 hw10 ho10 T8
  go_wp2_with (first
   | rw [HW9.out] | rw [HW10.out]
   | (refine wpList_put7 rfl (.tmp 2) (.tmp 119) rfl (X := .mk ⟨#[118, 97, 108]⟩ ⟨#[]⟩ v none 0 [] (atT T E i)) HZ10.out rfl (by rfl) ?_; intro wl hzl hol; have HZL := Lib.hid hzl; have HOL := Lib.hid hol; clear hzl hol))
  obtain ⟨o0, o1, o2, o3, o4, o5, o6⟩ := HZL.out.cells
  refine bodyPost_ret (v := exV (.mk ⟨#[118, 97, 108]⟩ ⟨#[]⟩ v none 0 [] (atT T E i))) ?_ rfl ?_
  ·simp [results, Tryz.results97, go_sem, o0, o1, o2, o3, o4, o5, o6, exV]
  ·exact isays_put HN10.out HI10.out (seesS_leaf (S := fun _ => False) (op := ⟨#[118, 97, 108]⟩) (name := ⟨#[]⟩) (show 3 ≤ 400 by decide) (Nat.zero_le _) HWF.out (fits_at HWW.out i)) (fun b hb => hb.elim) ⟨rfl, rfl, by rw [strip_mk]; rfl⟩ HOL.out rfl HLT.out HOLD.out
 ·have q2 : (kindT T i == 2) = false := beq_eq_false_iff_ne.2 hk2
  have q3 : (kindT T i == 3) = false := beq_eq_false_iff_ne.2 hk3
  have hk1 := HSGN.out _ (Or.inr rfl) hk
  have q1 : (kindT T i == 1) = true := beq_iff_eq.2 hk1
  have q4 : (tx.toList == [116, 114, 117, 101]) = false := by rw [HXX.out, isT_text hk]; decide
  have q5 : (tx.toList == [102, 97, 108, 115, 101]) = true := by rw [HXX.out]; exact beq_iff_eq.2 (isT_text hk)
  clear hk hk2 hk3 hk1 hkt
  have T8 := Lib.hid (rread_any ⟨(textT T i).toArray⟩ (by have := HV.out.2.2.2.1; have e : (⟨(textT T i).toArray⟩ : ByteArray).size = (textT T i).length := rfl; unfold maxLen; omega) w7)
  unfold readSays at T8
  replace T8 : Hid (Calls Tryz.prog 95 #[.string ⟨(textT T i).toArray⟩] w7 fun e w' => e = .returned (.tuple #[.agg #[.int .i64 v.type, .int .i64 v.n, .string v.s], .int .i64 0]) ∧ Below w7.heap.size w7 w') := by
   have h1 : (readP (⟨(textT T i).toArray⟩ : ByteArray).data.toList).1 = v := HV.out.2.1.symm
   have h2 : (readP (⟨(textT T i).toArray⟩ : ByteArray).data.toList).2 = 0 := HV.out.2.2.1
   rw [h1, h2] at T8
   exact T8
  rw [HTX.out] at T8
  go_wp2_with fail
  refine (T8.out).mono ?_
  rintro e' w8 ⟨rfl, hb8⟩
  obtain ⟨w9, hw9⟩ : ∃ w9, w8.alloc (.cells #[.int .i64 v.type, .int .i64 v.n, .string v.s] 23) = w9 := ⟨_, rfl⟩
  have hb9 : Below w8.heap.size w8 w9 := by rw [← hw9]; exact belowNew' _ _
  have ho9 : w9.heap[w8.heap.size]? = some (.cells #[.int .i64 v.type, .int .i64 v.n, .string v.s] 23 (0, 0)) := by rw [← hw9]; exact heap_alloc_new w8 _
  have hb79 := below_step hb8 hb9
  have hi9 := HI7.out.keep hb79
  obtain ⟨hi10, hn10⟩ := hi9.next HV.out.1
  obtain ⟨w10, hw10⟩ : ∃ w10, w9.setCell ⟨rb, 1, none⟩ (.int .i64 ((i : Int) + 1)) = w10 := ⟨_, rfl⟩
  rw [hw10] at hi10 hn10
  have ho10 : w10.heap[w8.heap.size]? = some (.cells #[.int .i64 v.type, .int .i64 v.n, .string v.s] 23 (0, 0)) := (hn10.block _ (Array.getElem?_eq_some_iff.1 ho9).1 (fun e => by have := HI7.out.lt; have := hb8.size; have e' : w8.heap.size = rb := e; omega)).trans ho9
  have HI10 := Lib.hid hi10
  have HN10 := Lib.hid ((HN7.out.trans (.of_below hb79)).trans hn10)
  have HZ10 := Lib.hid (own7_only (HZ7.out.keep hb79) hn10 (fun e => by have := HLT.out; have e' : w.heap.size = rb := e; omega))
  obtain ⟨c0, c1, c2, c3⟩ := hi9.cells
  obtain ⟨f1, f3⟩ := hi9.frees
  obtain ⟨v0, v1, v2⟩ := box3 ho10
  have hlv : w8.heap.size < w10.heap.size := (Array.getElem?_eq_some_iff.1 ho10).1
  have hw1r : IntKind.i64.wrap ((i : Int) + 1) = (i : Int) + 1 := IntWalk.i64_in _ (by omega)
  have bd := run_val v (atT T E i)
  have HW9 := Lib.hid hw9
  have HW10 := Lib.hid hw10
  clear hb8 hw9 hb9 ho9 hb79 hi9 hi10 hn10 hw10 ho10 T8
  go_wp2_with (first
   | rw [HW9.out] | rw [HW10.out]
   | (refine wpList_put7 rfl (.tmp 2) (.tmp 119) rfl (X := .mk ⟨#[118, 97, 108]⟩ ⟨#[]⟩ v none 0 [] (atT T E i)) HZ10.out rfl (by rfl) ?_; intro wl hzl hol; have HZL := Lib.hid hzl; have HOL := Lib.hid hol; clear hzl hol))
  obtain ⟨o0, o1, o2, o3, o4, o5, o6⟩ := HZL.out.cells
  refine bodyPost_ret (v := exV (.mk ⟨#[118, 97, 108]⟩ ⟨#[]⟩ v none 0 [] (atT T E i))) ?_ rfl ?_
  ·simp [results, Tryz.results97, go_sem, o0, o1, o2, o3, o4, o5, o6, exV]
  ·exact isays_put HN10.out HI10.out (seesS_leaf (S := fun _ => False) (op := ⟨#[118, 97, 108]⟩) (name := ⟨#[]⟩) (show 3 ≤ 400 by decide) (Nat.zero_le _) HWF.out (fits_at HWW.out i)) (fun b hb => hb.elim) ⟨rfl, rfl, by rw [strip_mk]; rfl⟩ HOL.out rfl HLT.out HOLD.out
set_option maxHeartbeats 8000000 in
set_option maxRecDepth 100000 in
theorem io_col {T : List Tok} {E : Nat} (hW : Words T E) {i : Nat} (h : isT T i wOpen = false) (hl : isT T i wLen = false) (hf : isT T i wIf = false) (hv : valT T i = none) {r : PR} (hcol : (∀ s, nameT T i = some s → r = .ok (colEx s (atT T E i), i + 1)) ∧ (nameT T i = none → r = .error (atT T E i))) (w : World) (rb : Nat) (A : Option Addr) (c : Nat) (hI : InAt T E w rb A c i none) :
  Calls Tryz.prog 97 #[.pointer (some ⟨rb, 0, none⟩)] w (ISays T E rb A c r w) := by
 have hvs := val_none hW hv
 clear hv
 obtain ⟨w0, hw0, ho0, hb0⟩ := box_zeroE w
 have hi0 := hI.keep hb0
 have HW0 := Lib.hid hw0
 have HI0 := Lib.hid hi0
 have HZ0 := Lib.hid ho0
 have HN0 := Lib.hid (Only.of_below (S := fun k => k = rb) hb0)
 have HLT := Lib.hid hI.lt
 have HOLD := Lib.hid (show 0 < T.length → ∀ ad, A = some ad → ad.block < w.heap.size from hI.old)
 have T1 := Lib.hid (inAt_any hi0 hW)
 have HWW := Lib.hid hW
 have HH := Lib.hid (show isIn T i none (⟨#[40]⟩ : ByteArray).data.toList = false from h)
 have HHL := Lib.hid (show isIn T i none (⟨#[108, 101, 110]⟩ : ByteArray).data.toList = false from hl)
 have HHF := Lib.hid (show isIn T i none (⟨#[105, 102]⟩ : ByteArray).data.toList = false from hf)
 have hcap : T.length ≤ c := hI.toks.2.2.1
 have hmax : c ≤ maxLen := hI.toks.2.2.2.1
 unfold maxLen at hmax
 have hlen := hW.len
 have hle := hI.le
 have HV := Lib.hid hvs
 clear hvs
 have HCOL := Lib.hid hcol
 clear hcol
 clear hI hw0 hi0 ho0 hb0 h hl hf hW
 go_enter Tryz.func97, Tryz.ntmps97
 go_wp2_with (first | rw [HW0.out])
 refine (T1.out).mono ?_
 rintro e' w1 ⟨rfl, hb1⟩
 have HI1 := Lib.hid (HI0.out.keep hb1)
 have HN1 := Lib.hid (HN0.out.trans (.of_below hb1))
 have HZ1 := Lib.hid (HZ0.out.keep hb1)
 clear hb1 T1
 have TH1 := Lib.hid (inHas_any HI1.out HWW.out ⟨#[40]⟩)
 rw [show isIn T i none (⟨#[40]⟩ : ByteArray).data.toList = false from HH.out] at TH1
 go_wp2_with fail
 refine (TH1.out).mono ?_
 rintro e' w2 ⟨rfl, hi2, hn2⟩
 have HI2 := Lib.hid (show InAt T E w2 rb A c (i) none from hi2)
 have HN2 := Lib.hid (HN1.out.trans hn2)
 have HZ2 := Lib.hid (own7_only HZ1.out hn2 (fun e => by have := HLT.out; have e' : w.heap.size = rb := e; omega))
 clear hi2 hn2 TH1
 have TH2 := Lib.hid (inHas_any HI2.out HWW.out ⟨#[108, 101, 110]⟩)
 rw [show isIn T i none (⟨#[108, 101, 110]⟩ : ByteArray).data.toList = false from HHL.out] at TH2
 go_wp2_with fail
 refine (TH2.out).mono ?_
 rintro e' w3 ⟨rfl, hi3, hn3⟩
 have HI3 := Lib.hid (show InAt T E w3 rb A c (i) none from hi3)
 have HN3 := Lib.hid (HN2.out.trans hn3)
 have HZ3 := Lib.hid (own7_only HZ2.out hn3 (fun e => by have := HLT.out; have e' : w.heap.size = rb := e; omega))
 clear hi3 hn3 TH2
 have TH3 := Lib.hid (inHas_any HI3.out HWW.out ⟨#[105, 102]⟩)
 rw [show isIn T i none (⟨#[105, 102]⟩ : ByteArray).data.toList = false from HHF.out] at TH3
 go_wp2_with fail
 refine (TH3.out).mono ?_
 rintro e' w4 ⟨rfl, hi4, hn4⟩
 have HI4 := Lib.hid (show InAt T E w4 rb A c (i) none from hi4)
 have HN4 := Lib.hid (HN3.out.trans hn4)
 have HZ4 := Lib.hid (own7_only HZ3.out hn4 (fun e => by have := HLT.out; have e' : w.heap.size = rb := e; omega))
 clear hi4 hn4 TH3
 by_cases hi : i < T.length
 rotate_left
 ·obtain ⟨nl, hnl⟩ : ∃ nl, T.length = nl := ⟨_, rfl⟩
  obtain ⟨c0, c1, c2, c3⟩ := HI4.out.cells
  rw [hnl] at c0 hcap hlen hle hi
  have g1 : decide ((i : Int) < (nl : Int)) = false := decide_eq_false (by omega)
  clear hnl c2 c3
  go_wp2_with fail
  go_quiet (fail)
  have hb5 : Below w4.heap.size w4 (w4.drewN nq) := below_drewN (Below.refl _ _) nq
  generalize w4.drewN nq = w5 at hb5 ⊢
  have HI5 := Lib.hid (HI4.out.keep hb5)
  have HN5 := Lib.hid (HN4.out.trans (.of_below hb5))
  have HZ5 := Lib.hid (HZ4.out.keep hb5)
  clear c0 c1 hb5
  have T9 := Lib.hid (inTake_any HI5.out HWW.out)
  unfold TakeInSays takeS at T9
  rw [if_pos rfl] at T9
  go_wp2_with fail
  refine (T9.out).mono ?_
  rintro e' wt (⟨s, hs, rfl, hit, hnt⟩ | ⟨hs, rfl, hit, hnt⟩)
  ·have HR := Lib.hid (show r = (.ok (colEx s (atT T E i), i + 1)) from HCOL.out.1 s hs)
   have HSS := Lib.hid (show s.length ≤ 400 by
    obtain ⟨t, ht, -, rfl, -⟩ := nameT_some hs
    exact HWW.out.text t (List.mem_of_getElem? ht))
   have HIT := Lib.hid hit
   have HNT := Lib.hid (HN5.out.trans hnt)
   have HZT := Lib.hid (own7_only HZ5.out hnt (fun e => by have := HLT.out; have e' : w.heap.size = rb := e; omega))
   have bd := run_col (mkB s) (atT T E i)
   clear hs hit hnt T9
   go_wp2_with (first
    | (refine wpList_put7 rfl (.tmp 2) (.tmp 124) rfl (X := (.mk ⟨#[99, 111, 108]⟩ (mkB s) noVal none 0 [] (atT T E i))) HZT.out rfl (by rfl) ?_; intro wl hzl hol; have HZL := Lib.hid hzl; have HOL := Lib.hid hol; clear hzl hol))
   obtain ⟨o0, o1, o2, o3, o4, o5, o6⟩ := HZL.out.cells
   refine bodyPost_ret (v := exV (.mk ⟨#[99, 111, 108]⟩ (mkB s) noVal none 0 [] (atT T E i))) ?_ rfl ?_
   ·simp [results, Tryz.results97, go_sem, o0, o1, o2, o3, o4, o5, o6, exV]
   ·rw [HR.out]
    exact isays_put HNT.out HIT.out (seesS_leaf (S := fun _ => False) (op := ⟨#[99, 111, 108]⟩) (name := (mkB s)) (v := noVal) (show 3 ≤ 400 by decide) (show (mkB s).size ≤ 400 from HSS.out) ⟨show fits 0 by decide, show fits 0 by decide, Nat.zero_le _⟩ (fits_at HWW.out i)) (fun b hb => hb.elim) ⟨rfl, rfl, by rw [strip_mk]; rfl⟩ HOL.out rfl HLT.out HOLD.out
  ·have HR := Lib.hid (show r = (.error (atT T E i)) from HCOL.out.2 hs)
   have HIT := Lib.hid hit
   have HNT := Lib.hid (HN5.out.trans hnt)
   have HZT := Lib.hid (own7_only HZ5.out hnt (fun e => by have := HLT.out; have e' : w.heap.size = rb := e; omega))
   have bd := run_col ⟨#[]⟩ (atT T E i)
   clear hs hit hnt T9
   go_wp2_with (first
    | (refine wpList_put7 rfl (.tmp 2) (.tmp 124) rfl (X := (.mk ⟨#[99, 111, 108]⟩ ⟨#[]⟩ noVal none 0 [] (atT T E i))) HZT.out rfl (by rfl) ?_; intro wl hzl hol; have HZL := Lib.hid hzl; have HOL := Lib.hid hol; clear hzl hol))
   obtain ⟨o0, o1, o2, o3, o4, o5, o6⟩ := HZL.out.cells
   refine bodyPost_ret (v := exV (.mk ⟨#[99, 111, 108]⟩ ⟨#[]⟩ noVal none 0 [] (atT T E i))) ?_ rfl ?_
   ·simp [results, Tryz.results97, go_sem, o0, o1, o2, o3, o4, o5, o6, exV]
   ·rw [HR.out]
    exact isays_put HNT.out HIT.out (seesS_leaf (S := fun _ => False) (op := ⟨#[99, 111, 108]⟩) (name := ⟨#[]⟩) (v := noVal) (show 3 ≤ 400 by decide) (Nat.zero_le _) ⟨show fits 0 by decide, show fits 0 by decide, Nat.zero_le _⟩ (fits_at HWW.out i)) (fun b hb => hb.elim) rfl HOL.out rfl HLT.out HOLD.out
 ·skip
  obtain ⟨nl, hnl⟩ : ∃ nl, T.length = nl := ⟨_, rfl⟩
  have HNL := Lib.hid hnl
  obtain ⟨g, o, x, hA, hg, hx, t0, t1, t2⟩ := HI4.out.toks.at_ (k := i) hi
  subst hA
  have HTOK := Lib.hid (show ∀ w', Below w4.heap.size w4 w' → w'.cell? ⟨rb, 0, none⟩ = some (.slice (some ⟨g, o, none⟩) nl c) ∧ w'.cell? ⟨rb, 1, none⟩ = some (.int .i64 i) ∧ w'.cell? ⟨rb, 3, none⟩ = some (.int .i64 (-1)) ∧ w'.cell? ⟨g, o + i * 3, none⟩ = some (.int .i64 (kindT T i)) ∧ w'.cell? ⟨g, o + i * 3 + 1, none⟩ = some (.string ⟨(textT T i).toArray⟩) ∧ w'.cell? ⟨g, o + i * 3 + 2, none⟩ = some (.int .i64 (atT T E i)) from fun w' hb => by
   obtain ⟨c0, c1, c2, c3⟩ := (HI4.out.keep hb).cells
   rw [hnl] at c0
   refine ⟨c0, c1, c3, ?_, ?_, ?_⟩
   ·rw [hb.cell (p := ⟨g, o + i * 3, none⟩) hg, t0]; unfold kindT; rw [hx]
   ·rw [hb.cell (p := ⟨g, o + i * 3 + 1, none⟩) hg, t1]; unfold textT; rw [hx]
   ·rw [hb.cell (p := ⟨g, o + i * 3 + 2, none⟩) hg, t2]; unfold atT; rw [hx])
  rw [hnl] at hcap hlen hle hi
  have g1 : decide ((i : Int) < (nl : Int)) = true := decide_eq_true (by omega)
  have g2 : decide ((-1 : Int) < 0) = true := rfl
  obtain ⟨c0, c1, c3, k0, k1, k2⟩ := HTOK.out w4 (Below.refl _ _)
  clear t0 t1 t2 hx hnl hg
  go_wp2_with fail
  go_quiet (fail)
  have hb5 : Below w4.heap.size w4 (w4.drewN nq) := below_drewN (Below.refl _ _) nq
  generalize w4.drewN nq = w5 at hb5 ⊢
  have HI5 := Lib.hid (HI4.out.keep hb5)
  have HN5 := Lib.hid (HN4.out.trans (.of_below hb5))
  have HZ5 := Lib.hid (HZ4.out.keep hb5)
  have HB45 := Lib.hid hb5
  clear c0 c1 c3 k0 k1 k2 hb5
  go_wp2_with fail
  refine wp_region_held (S := fun w' => Below w4.heap.size w4 w') (by kernel_rfl) ?_
  change wpAnyH _ _ _ _ _ _ _ _ (World.drew w5)
  have HSS : (fun w' : World => Below w4.heap.size w4 w') (World.drew w5) := HB45.out.drew
  refine takeH (i := 0) (d := some 71) (v := .pointer (some ⟨rb, 0, none⟩)) rfl rfl (by kernel_rfl) (by kernel_rfl) (by kernel_rfl) (fun _ _ _ h => h) (Or.inl ⟨by rfl, fun w' hS => by obtain ⟨c0, c1, c3, k0, k1, k2⟩ := HTOK.out w' hS; first | (go_simp; done) | (go_simp; omega) | (go_simp; intro h; omega)⟩) HSS ?_
  simp only [Act.put, sA, sZ, sS]
  refine takeH (i := 1) (d := some 72) (v := .pointer (some ⟨rb, 0, none⟩)) rfl rfl (by kernel_rfl) (by kernel_rfl) (by kernel_rfl) (fun _ _ _ h => h) (Or.inl ⟨by rfl, fun w' hS => by obtain ⟨c0, c1, c3, k0, k1, k2⟩ := HTOK.out w' hS; first | (go_simp; done) | (go_simp; omega) | (go_simp; intro h; omega)⟩) HSS ?_
  simp only [Act.put, sA, sZ, sS]
  refine takeH (i := 2) (d := some 73) (v := .pointer (some ⟨rb, 0, none⟩)) rfl rfl (by kernel_rfl) (by kernel_rfl) (by kernel_rfl) (fun _ _ _ h => h) (Or.inl ⟨by rfl, fun w' hS => by obtain ⟨c0, c1, c3, k0, k1, k2⟩ := HTOK.out w' hS; first | (go_simp; done) | (go_simp; omega) | (go_simp; intro h; omega)⟩) HSS ?_
  simp only [Act.put, sA, sZ, sS]
  refine takeH (i := 3) (d := some 74) (v := .slice (some ⟨g, o, none⟩) nl c) rfl rfl (by kernel_rfl) (by kernel_rfl) (by kernel_rfl) (fun _ _ _ h => h) (Or.inl ⟨by rfl, fun w' hS => by obtain ⟨c0, c1, c3, k0, k1, k2⟩ := HTOK.out w' hS; first | (go_simp; done) | (go_simp; omega) | (go_simp; intro h; omega)⟩) HSS ?_
  simp only [Act.put, sA, sZ, sS]
  refine takeH (i := 4) (d := some 75) (v := .pointer (some ⟨rb, 0, none⟩)) rfl rfl (by kernel_rfl) (by kernel_rfl) (by kernel_rfl) (fun _ _ _ h => h) (Or.inl ⟨by rfl, fun w' hS => by obtain ⟨c0, c1, c3, k0, k1, k2⟩ := HTOK.out w' hS; first | (go_simp; done) | (go_simp; omega) | (go_simp; intro h; omega)⟩) HSS ?_
  simp only [Act.put, sA, sZ, sS]
  refine takeH (i := 5) (d := some 76) (v := .pointer (some ⟨rb, 0, none⟩)) rfl rfl (by kernel_rfl) (by kernel_rfl) (by kernel_rfl) (fun _ _ _ h => h) (Or.inl ⟨by rfl, fun w' hS => by obtain ⟨c0, c1, c3, k0, k1, k2⟩ := HTOK.out w' hS; first | (go_simp; done) | (go_simp; omega) | (go_simp; intro h; omega)⟩) HSS ?_
  simp only [Act.put, sA, sZ, sS]
  refine takeH (i := 6) (d := some 77) (v := .pointer (some ⟨rb, 1, none⟩)) rfl rfl (by kernel_rfl) (by kernel_rfl) (by kernel_rfl) (fun _ _ _ h => h) (Or.inl ⟨by rfl, fun w' hS => by obtain ⟨c0, c1, c3, k0, k1, k2⟩ := HTOK.out w' hS; first | (go_simp; done) | (go_simp; omega) | (go_simp; intro h; omega)⟩) HSS ?_
  simp only [Act.put, sA, sZ, sS]
  refine takeH (i := 7) (d := some 78) (v := .int .i64 i) rfl rfl (by kernel_rfl) (by kernel_rfl) (by kernel_rfl) (fun _ _ _ h => h) (Or.inl ⟨by rfl, fun w' hS => by obtain ⟨c0, c1, c3, k0, k1, k2⟩ := HTOK.out w' hS; first | (go_simp; done) | (go_simp; omega) | (go_simp; intro h; omega)⟩) HSS ?_
  simp only [Act.put, sA, sZ, sS]
  refine takeH (i := 8) (d := some 79) (v := .pointer (some ⟨g, o + i * 3, none⟩)) rfl rfl (by kernel_rfl) (by kernel_rfl) (by kernel_rfl) (fun _ _ _ h => h) (Or.inl ⟨by rfl, fun w' hS => by obtain ⟨c0, c1, c3, k0, k1, k2⟩ := HTOK.out w' hS; first | (go_simp; done) | (go_simp; omega) | (go_simp; intro h; omega)⟩) HSS ?_
  simp only [Act.put, sA, sZ, sS]
  refine takeH (i := 9) (d := some 80) (v := .agg #[.int .i64 (kindT T i), .string ⟨(textT T i).toArray⟩, .int .i64 (atT T E i)]) rfl rfl (by kernel_rfl) (by kernel_rfl) (by kernel_rfl) (fun _ _ _ h => h) (Or.inl ⟨by rfl, fun w' hS => by obtain ⟨c0, c1, c3, k0, k1, k2⟩ := HTOK.out w' hS; first | (go_simp; done) | (go_simp; omega) | (go_simp; intro h; omega)⟩) HSS ?_
  simp only [Act.put, sA, sZ, sS]
  refine wpAnyH_all (rs := [10]) (by kernel_rfl) (by simp) (fun jj hj => ?_)
  obtain rfl : jj = 10 := by simpa using hj
  have hb6 := belowNew' (World.drew w5) (.cells #[.int .i64 0, .string ⟨#[]⟩, .int .i64 0] 95)
  have ho6 : Own3T ((World.drew w5).alloc (.cells #[.int .i64 0, .string ⟨#[]⟩, .int .i64 0] 95)) w5.heap.size 0 ⟨#[]⟩ 0 := own3t_new (World.drew w5) _ _ _
  refine wpOp_valueD (d := some 10) rfl rfl (by rfl) (v := .pointer (some ⟨w5.heap.size, 0, none⟩)) (w' := (World.drew w5).alloc (.cells #[.int .i64 0, .string ⟨#[]⟩, .int .i64 0] 95)) (by go_simp) ?_
  generalize (World.drew w5).alloc (.cells #[.int .i64 0, .string ⟨#[]⟩, .int .i64 0] 95) = w6 at hb6 ho6 ⊢
  have hb56 : Below w5.heap.size w5 w6 := (Below.refl w5.heap.size w5).drew.trans hb6
  have hb46 := below_step HB45.out hb56
  refine ⟨hb46, ?_⟩
  simp only [Act.put, sA, sZ, sS]
  refine wpAnyH_all (rs := [11]) (by kernel_rfl) (by simp) (fun jj hj => ?_)
  obtain rfl : jj = 11 := by simpa using hj
  obtain ⟨z0, z1, z2⟩ := ho6.cells
  obtain ⟨f0, f1, f2⟩ := ho6.frees
  have hb7 : Below w5.heap.size w5 (((w6.setCell ⟨w5.heap.size, 0, none⟩ (.int .i64 (kindT T i))).setCell ⟨w5.heap.size, 1, none⟩ (.string ⟨(textT T i).toArray⟩)).setCell ⟨w5.heap.size, 2, none⟩ (.int .i64 (atT T E i))) := ((hb56.setCell (p := ⟨w5.heap.size, 0, none⟩) (Nat.le_refl _) _).setCell (p := ⟨w5.heap.size, 1, none⟩) (Nat.le_refl _) _).setCell (p := ⟨w5.heap.size, 2, none⟩) (Nat.le_refl _) _
  have ho7 := own3t_set ho6 (kindT T i) ⟨(textT T i).toArray⟩ (atT T E i)
  refine wpOp_skip rfl (by rfl) (w' := ((w6.setCell ⟨w5.heap.size, 0, none⟩ (.int .i64 (kindT T i))).setCell ⟨w5.heap.size, 1, none⟩ (.string ⟨(textT T i).toArray⟩)).setCell ⟨w5.heap.size, 2, none⟩ (.int .i64 (atT T E i))) (by go_simp) ?_
  generalize ((w6.setCell ⟨w5.heap.size, 0, none⟩ (.int .i64 (kindT T i))).setCell ⟨w5.heap.size, 1, none⟩ (.string ⟨(textT T i).toArray⟩)).setCell ⟨w5.heap.size, 2, none⟩ (.int .i64 (atT T E i)) = w7 at hb7 ho7 ⊢
  refine ⟨below_step HB45.out hb7, ?_⟩
  refine wpAnyH_done (by kernel_rfl) ?_ _
  have HI7 := Lib.hid (HI5.out.keep hb7)
  have HN7 := Lib.hid (HN5.out.trans (.of_below hb7))
  have HZ7 := Lib.hid (HZ5.out.keep hb7)
  have HT := Lib.hid ho7
  obtain ⟨tx, htx⟩ : ∃ tx, (⟨(textT T i).toArray⟩ : ByteArray) = tx := ⟨_, rfl⟩
  have HTX := Lib.hid htx
  rw [htx] at HT ⊢
  clear htx HTOK
  generalize w5.heap.size = b10 at HT ⊢
  obtain ⟨d0, d1, d2⟩ := HT.out.cells
  have hld := HT.out.lt
  clear hb6 ho6 hb56 hb46 z0 z1 z2 f0 f1 f2 hb7 ho7 HSS
  have q2 : (kindT T i == 2) = false := beq_eq_false_iff_ne.2 HV.out.1
  have q3 : (kindT T i == 3) = false := beq_eq_false_iff_ne.2 HV.out.2.1
  have HXX := Lib.hid (show ∀ s : List UInt8, (tx.toList == s) = (textT T i == s) from fun s => by rw [Lib.toList_data, ← HTX.out])
  have HNO := Lib.hid (show kindT T i = 1 → (textT T i == tTrue) = false ∧ (textT T i == tFalse) = false from fun hk => by
   have h1 := HV.out.2.2.1
   have h2 := HV.out.2.2.2
   rw [isT_eq, hk] at h1 h2
   exact ⟨h1, h2⟩)
  by_cases hk1 : kindT T i = 1
  ·have q1 : (kindT T i == 1) = true := beq_iff_eq.2 hk1
   have q4 : (tx.toList == [116, 114, 117, 101]) = false := by rw [HXX.out]; exact (HNO.out hk1).1
   have q5 : (tx.toList == [102, 97, 108, 115, 101]) = false := by rw [HXX.out]; exact (HNO.out hk1).2
   clear hk1
   have T9 := Lib.hid (inTake_any HI7.out HWW.out)
   unfold TakeInSays takeS at T9
   rw [if_pos rfl] at T9
   go_wp2_with fail
   refine (T9.out).mono ?_
   rintro e' wt (⟨s, hs, rfl, hit, hnt⟩ | ⟨hs, rfl, hit, hnt⟩)
   ·have HR := Lib.hid (show r = (.ok (colEx s (atT T E i), i + 1)) from HCOL.out.1 s hs)
    have HSS := Lib.hid (show s.length ≤ 400 by
     obtain ⟨t, ht, -, rfl, -⟩ := nameT_some hs
     exact HWW.out.text t (List.mem_of_getElem? ht))
    have HIT := Lib.hid hit
    have HNT := Lib.hid (HN7.out.trans hnt)
    have HZT := Lib.hid (own7_only HZ7.out hnt (fun e => by have := HLT.out; have e' : w.heap.size = rb := e; omega))
    have bd := run_col (mkB s) (atT T E i)
    clear hs hit hnt T9
    go_wp2_with (first
     | (refine wpList_put7 rfl (.tmp 2) (.tmp 124) rfl (X := (.mk ⟨#[99, 111, 108]⟩ (mkB s) noVal none 0 [] (atT T E i))) HZT.out rfl (by rfl) ?_; intro wl hzl hol; have HZL := Lib.hid hzl; have HOL := Lib.hid hol; clear hzl hol))
    obtain ⟨o0, o1, o2, o3, o4, o5, o6⟩ := HZL.out.cells
    refine bodyPost_ret (v := exV (.mk ⟨#[99, 111, 108]⟩ (mkB s) noVal none 0 [] (atT T E i))) ?_ rfl ?_
    ·simp [results, Tryz.results97, go_sem, o0, o1, o2, o3, o4, o5, o6, exV]
    ·rw [HR.out]
     exact isays_put HNT.out HIT.out (seesS_leaf (S := fun _ => False) (op := ⟨#[99, 111, 108]⟩) (name := (mkB s)) (v := noVal) (show 3 ≤ 400 by decide) (show (mkB s).size ≤ 400 from HSS.out) ⟨show fits 0 by decide, show fits 0 by decide, Nat.zero_le _⟩ (fits_at HWW.out i)) (fun b hb => hb.elim) ⟨rfl, rfl, by rw [strip_mk]; rfl⟩ HOL.out rfl HLT.out HOLD.out
   ·have HR := Lib.hid (show r = (.error (atT T E i)) from HCOL.out.2 hs)
    have HIT := Lib.hid hit
    have HNT := Lib.hid (HN7.out.trans hnt)
    have HZT := Lib.hid (own7_only HZ7.out hnt (fun e => by have := HLT.out; have e' : w.heap.size = rb := e; omega))
    have bd := run_col ⟨#[]⟩ (atT T E i)
    clear hs hit hnt T9
    go_wp2_with (first
     | (refine wpList_put7 rfl (.tmp 2) (.tmp 124) rfl (X := (.mk ⟨#[99, 111, 108]⟩ ⟨#[]⟩ noVal none 0 [] (atT T E i))) HZT.out rfl (by rfl) ?_; intro wl hzl hol; have HZL := Lib.hid hzl; have HOL := Lib.hid hol; clear hzl hol))
    obtain ⟨o0, o1, o2, o3, o4, o5, o6⟩ := HZL.out.cells
    refine bodyPost_ret (v := exV (.mk ⟨#[99, 111, 108]⟩ ⟨#[]⟩ noVal none 0 [] (atT T E i))) ?_ rfl ?_
    ·simp [results, Tryz.results97, go_sem, o0, o1, o2, o3, o4, o5, o6, exV]
    ·rw [HR.out]
     exact isays_put HNT.out HIT.out (seesS_leaf (S := fun _ => False) (op := ⟨#[99, 111, 108]⟩) (name := ⟨#[]⟩) (v := noVal) (show 3 ≤ 400 by decide) (Nat.zero_le _) ⟨show fits 0 by decide, show fits 0 by decide, Nat.zero_le _⟩ (fits_at HWW.out i)) (fun b hb => hb.elim) rfl HOL.out rfl HLT.out HOLD.out
  ·have q1 : (kindT T i == 1) = false := beq_eq_false_iff_ne.2 hk1
   clear hk1
   have T9 := Lib.hid (inTake_any HI7.out HWW.out)
   unfold TakeInSays takeS at T9
   rw [if_pos rfl] at T9
   go_wp2_with fail
   refine (T9.out).mono ?_
   rintro e' wt (⟨s, hs, rfl, hit, hnt⟩ | ⟨hs, rfl, hit, hnt⟩)
   ·have HR := Lib.hid (show r = (.ok (colEx s (atT T E i), i + 1)) from HCOL.out.1 s hs)
    have HSS := Lib.hid (show s.length ≤ 400 by
     obtain ⟨t, ht, -, rfl, -⟩ := nameT_some hs
     exact HWW.out.text t (List.mem_of_getElem? ht))
    have HIT := Lib.hid hit
    have HNT := Lib.hid (HN7.out.trans hnt)
    have HZT := Lib.hid (own7_only HZ7.out hnt (fun e => by have := HLT.out; have e' : w.heap.size = rb := e; omega))
    have bd := run_col (mkB s) (atT T E i)
    clear hs hit hnt T9
    go_wp2_with (first
     | (refine wpList_put7 rfl (.tmp 2) (.tmp 124) rfl (X := (.mk ⟨#[99, 111, 108]⟩ (mkB s) noVal none 0 [] (atT T E i))) HZT.out rfl (by rfl) ?_; intro wl hzl hol; have HZL := Lib.hid hzl; have HOL := Lib.hid hol; clear hzl hol))
    obtain ⟨o0, o1, o2, o3, o4, o5, o6⟩ := HZL.out.cells
    refine bodyPost_ret (v := exV (.mk ⟨#[99, 111, 108]⟩ (mkB s) noVal none 0 [] (atT T E i))) ?_ rfl ?_
    ·simp [results, Tryz.results97, go_sem, o0, o1, o2, o3, o4, o5, o6, exV]
    ·rw [HR.out]
     exact isays_put HNT.out HIT.out (seesS_leaf (S := fun _ => False) (op := ⟨#[99, 111, 108]⟩) (name := (mkB s)) (v := noVal) (show 3 ≤ 400 by decide) (show (mkB s).size ≤ 400 from HSS.out) ⟨show fits 0 by decide, show fits 0 by decide, Nat.zero_le _⟩ (fits_at HWW.out i)) (fun b hb => hb.elim) ⟨rfl, rfl, by rw [strip_mk]; rfl⟩ HOL.out rfl HLT.out HOLD.out
   ·have HR := Lib.hid (show r = (.error (atT T E i)) from HCOL.out.2 hs)
    have HIT := Lib.hid hit
    have HNT := Lib.hid (HN7.out.trans hnt)
    have HZT := Lib.hid (own7_only HZ7.out hnt (fun e => by have := HLT.out; have e' : w.heap.size = rb := e; omega))
    have bd := run_col ⟨#[]⟩ (atT T E i)
    clear hs hit hnt T9
    go_wp2_with (first
     | (refine wpList_put7 rfl (.tmp 2) (.tmp 124) rfl (X := (.mk ⟨#[99, 111, 108]⟩ ⟨#[]⟩ noVal none 0 [] (atT T E i))) HZT.out rfl (by rfl) ?_; intro wl hzl hol; have HZL := Lib.hid hzl; have HOL := Lib.hid hol; clear hzl hol))
    obtain ⟨o0, o1, o2, o3, o4, o5, o6⟩ := HZL.out.cells
    refine bodyPost_ret (v := exV (.mk ⟨#[99, 111, 108]⟩ ⟨#[]⟩ noVal none 0 [] (atT T E i))) ?_ rfl ?_
    ·simp [results, Tryz.results97, go_sem, o0, o1, o2, o3, o4, o5, o6, exV]
    ·rw [HR.out]
     exact isays_put HNT.out HIT.out (seesS_leaf (S := fun _ => False) (op := ⟨#[99, 111, 108]⟩) (name := ⟨#[]⟩) (v := noVal) (show 3 ≤ 400 by decide) (Nat.zero_le _) ⟨show fits 0 by decide, show fits 0 by decide, Nat.zero_le _⟩ (fits_at HWW.out i)) (fun b hb => hb.elim) rfl HOL.out rfl HLT.out HOLD.out
def IxAt (T : List Tok) (E k : Nat) : Prop := ∀ (n i : Nat) (r : PR), n ≤ 5 → work T (.lv n) i ≤ k → Rd T E (.lv n) i r → ∀ (w : World) (rb : Nat) (A : Option Addr) (c : Nat), InAt T E w rb A c i none → Calls Tryz.prog 46 #[.pointer (some ⟨rb, 0, none⟩), .int .i64 n] w (ISays T E rb A c r w)
theorem needI_yes {T : List Tok} {i : Nat} {s : List UInt8} (h : isT T i s = true) : needI T i none s = i + 1 := by unfold needI isIn; rw [h]; rfl
theorem needB_yes {T : List Tok} {E i : Nat} {s : List UInt8} (h : isT T i s = true) : needB T E i none s = none := by unfold needB isIn; rw [h]; rfl
theorem needB_no {T : List Tok} {E i : Nat} {s : List UInt8} (h : isT T i s = false) : needB T E i none s = some (atT T E i) := by unfold needB isIn; rw [h]; rfl
theorem needB_bad {T : List Tok} {E i k : Nat} {s : List UInt8} : needB T E i (some k) s = some k := by unfold needB isIn; rfl
theorem io_all {T : List Tok} {E : Nat} (hW : Words T E) {k : Nat} (IH : IxAt T E k) {i : Nat} {r : PR} (hk : work T .pr i ≤ k + 2) (hr : Rd T E .pr i r) (w : World) (rb : Nat) (A : Option Addr) (c : Nat) (hI : InAt T E w rb A c i none) :
  Calls Tryz.prog 97 #[.pointer (some ⟨rb, 0, none⟩)] w (ISays T E rb A c r w) := by
 have hi := hI.le
 have ex : ∀ (j : Nat) (st : Option Nat) (r' : PR), (st = none → i + 1 ≤ j) → RdS T E (.lv 0) j st r' → ∀ w' : World, InAt T E w' rb A c j st → Calls Tryz.prog 46 #[.pointer (some ⟨rb, 0, none⟩), .int .i64 0] w' (ISays T E rb A c r' w') := by
  intro j st r' hj hr' w' hI'
  cases st with
  | some k =>
   have hr' : r' = .error k := hr'
   subst hr'
   exact ix_bad 0 w' rb A c hI'
  | none =>
   have hj := hj rfl
   have hjl := hI'.le
   exact IH 0 j r' (Nat.zero_le _) (by simp only [work, rank] at hk ⊢; omega) hr' w' rb A c hI'
 cases hr with
 | prPar h a cc =>
  refine io_par hW h (r1 := _) a rb A c ex (fun y j st hR => ?_) w hI
  obtain ⟨rfl, rfl, rfl⟩ := hR
  exact ⟨needB_yes cc, needI_yes cc, rfl⟩
 | prParN h a cc =>
  refine io_par hW h (r1 := _) a rb A c ex (fun y j st hR => ?_) w hI
  obtain ⟨rfl, rfl, rfl⟩ := hR
  exact needB_no cc
 | prParE h a =>
  refine io_par hW h (r1 := _) a rb A c ex (fun y j st hR => ?_) w hI
  have hR : st = some _ := hR
  subst hR
  exact needB_bad
 | prLen h o a => exact io_len hW (isT_one h (by decide)) h rb A c ex (by rw [needI_yes o, needB_yes o]; exact ⟨Nat.le_refl _, a⟩) w hI
 | prIf h o a => exact io_if hW (isT_one h (by decide)) (isT_one h (by decide)) h rb A c ex (by rw [needI_yes o, needB_yes o]; exact ⟨Nat.le_refl _, a⟩) w hI
 | prLenN h o => exact io_len hW (isT_one h (by decide)) h rb A c ex (by rw [needB_no o]; rfl) w hI
 | prIfN h o => exact io_if hW (isT_one h (by decide)) (isT_one h (by decide)) h rb A c ex (by rw [needB_no o]; rfl) w hI
 | prVal h1 h2 h3 cc => exact io_val hW h1 h2 h3 cc w rb A c hI
 | prCol h1 h2 h3 cc d => exact io_col hW h1 h2 h3 cc ⟨fun s hs => by rw [d] at hs; injection hs with hs; subst hs; rfl, fun e => by rw [d] at e; cases e⟩ w rb A c hI
 | prNo h1 h2 h3 cc d => exact io_col hW h1 h2 h3 cc ⟨(fun s hs => by rw [d] at hs; cases hs), fun _ => rfl⟩ w rb A c hI
theorem ix_all {T : List Tok} {E : Nat} (hW : Words T E) {k : Nat} (IH : IxAt T E k) : IxAt T E (k + 1) := by
 intro n i r hn5 hk hr w rb A c hI
 have hi := hI.le
 have go : ∀ n, n < 5 → (n = 2 → isT T i wNot = false) → work T (.lv n) i ≤ k + 1 → ∀ r r1 : PR, Rd T E (.lv (n + 1)) i r1 → (∀ x j, r1 = .ok (x, j) → i < j ∧ Rd T E (.lp n x) j r) → (∀ k, r1 = .error k → r = .error k) → Calls Tryz.prog 46 #[.pointer (some ⟨rb, 0, none⟩), .int .i64 n] w (ISays T E rb A c r w) := by
  intro n hn h2 hk r r1 a hok herr
  refine ix_go hW hn h2 w rb A c hI (fun w' h1 => ?_) (fun i' r' hii hil hr' w' h1 => ?_) hok herr
  ·have := IH (n + 1) i r1 (by omega) (by simp only [work, rank] at hk ⊢; omega) a w' rb A c h1
   rwa [Int.natCast_add] at this
  ·have := IH (n + 1) i' r' (by omega) (by simp only [work, rank] at hk ⊢; omega) hr' w' rb A c h1
   rwa [Int.natCast_add] at this
 cases hr with
 | lvNot h a => exact ix_not hW h w rb A c hI (fun w' h1 => IH 2 _ _ (by decide) (by have := isT_lt h; simp only [work, rank] at hk ⊢; omega) a w' rb A c h1) (fun x j e => by cases e; rfl) (fun k e => by cases e)
 | lvNotE h a => exact ix_not hW h w rb A c hI (fun w' h1 => IH 2 _ _ (by decide) (by have := isT_lt h; simp only [work, rank] at hk ⊢; omega) a w' rb A c h1) (fun x j e => by cases e) (fun k e => by cases e; rfl)
 | lvUn a =>
  cases a with
  | unNeg h a => exact ix_neg hW h w rb A c hI (fun w' h1 => IH 5 _ _ (by decide) (by have := isT_lt h; simp only [work, rank] at hk ⊢; omega) (.lvUn a) w' rb A c h1) (fun x j e => by cases e; rfl) (fun k e => by cases e)
  | unNegE h a => exact ix_neg hW h w rb A c hI (fun w' h1 => IH 5 _ _ (by decide) (by have := isT_lt h; simp only [work, rank] at hk ⊢; omega) (.lvUn a) w' rb A c h1) (fun x j e => by cases e) (fun k e => by cases e; rfl)
  | unPr h a => exact ix_one hW h w rb A c hI (fun w' h1 => io_all hW IH (by simp only [work, rank] at hk ⊢; omega) a w' rb A c h1)
 | lvGo hn h a b =>
  refine go n hn h hk _ _ a (fun x' j' e => ?_) (fun k e => by cases e)
  cases e
  exact ⟨by have := (rd_on a _ _ rfl hi).1; simp only [gain] at this; omega, b⟩
 | lvGoE hn h a => exact go n hn h hk _ _ a (fun x' j' e => by cases e) (fun k e => by cases e; rfl)
theorem ixAll_any {T : List Tok} {E : Nat} (hW : Words T E) : ∀ k, IxAt T E k
 | 0 => fun n i r _ hk => by simp only [work, rank] at hk; omega
 | k + 1 => ix_all hW (ixAll_any hW k)
theorem inExpr_any {T : List Tok} {E : Nat} (hW : Words T E) {i : Nat} {r : PR} (hr : Rd T E (.lv 0) i r) (w : World) (rb : Nat) (A : Option Addr) (c : Nat) (hI : InAt T E w rb A c i none) :
  Calls Tryz.prog 46 #[.pointer (some ⟨rb, 0, none⟩), .int .i64 0] w (ISays T E rb A c r w) :=
 ixAll_any hW (work T (.lv 0) i) 0 i r (Nat.zero_le _) (Nat.le_refl _) hr w rb A c hI
theorem exNs_app : ∀ (l m : List Ex), exNs (l ++ m) = exNs l + exNs m
 | [], m => by rw [exNs, List.nil_append]; omega
 | a :: l, m => by rw [List.cons_append, exNs, exNs, exNs_app l m]; omega
def accN : Md → Nat
 | .lv _ => 0 | .un => 0 | .pr => 0 | .lp _ e => exN e | .ar _ _ _ acc => exNs acc
theorem rd_exN {T : List Tok} {E : Nat} {m : Md} {i : Nat} {r : PR} (h : Rd T E m i r) : ∀ x j, r = .ok (x, j) → i ≤ T.length → exN x + i ≤ accN m + j := by
 have e1 : ∀ (op : List UInt8) (l : List Ex) (pos : Nat), exN (opEx op l pos) = exNs l + 1 := fun op l pos => by unfold opEx; rw [exN]
 have e2 : ∀ x : Ex, exNs [x] = exN x := fun x => by rw [exNs, exNs]; rfl
 have e3 : ∀ x y : Ex, exNs [x, y] = exN x + exN y := fun x y => by rw [exNs, e2]
 induction h with
 | lvNot h a ih => intro x j e hi; cases e; have := isT_lt h; have := ih _ _ rfl (by omega); simp only [accN, e1, e2] at *; omega
 | lvNotE => intro x j e; cases e
 | lvUn a ih => intro x j e hi; exact ih x j e hi
 | lvGo hn h a b ih1 ih2 =>
  intro x j e hi
  have h1 := ih1 _ _ rfl hi
  have h2 := ih2 x j e (rd_on a _ _ rfl hi).2
  simp only [accN] at *
  omega
 | lvGoE => intro x j e; cases e
 | lpEnd h => intro x j e hi; cases e; simp only [accN]; omega
 | lpGo h hn a b ih1 ih2 =>
  intro x j e hi
  have := isT_lt (sgT_some h).2
  have h1 := ih1 _ _ rfl (by omega)
  have h2 := ih2 x j e (rd_on a _ _ rfl (by omega)).2
  simp only [accN, e1, e3] at *
  omega
 | lpOne h a ih =>
  intro x j e hi
  cases e
  have := isT_lt (sgT_some h).2
  have h1 := ih _ _ rfl (by omega)
  simp only [accN, e1, e3] at *
  omega
 | lpE => intro x j e; cases e
 | unNeg h a ih => intro x j e hi; cases e; have := isT_lt h; have := ih _ _ rfl (by omega); simp only [accN, e1, e2] at *; omega
 | unNegE => intro x j e; cases e
 | unPr h a ih => intro x j e hi; exact ih x j e hi
 | prPar h a c ih => intro x j e hi; cases e; have := isT_lt h; have := ih _ _ rfl (by omega); simp only [accN] at *; omega
 | prParN => intro x j e; cases e
 | prParE => intro x j e; cases e
 | prLen h o a ih => intro x j e hi; have := isT_lt o; have := ih x j e (by omega); simp only [accN, exNs] at *; omega
 | prIf h o a ih => intro x j e hi; have := isT_lt o; have := ih x j e (by omega); simp only [accN, exNs] at *; omega
 | prLenN => intro x j e; cases e
 | prIfN => intro x j e; cases e
 | prVal h1 h2 h3 c => intro x j e hi; cases e; simp only [accN, valEx, exN, exNs]; omega
 | prCol h1 h2 h3 c d => intro x j e hi; cases e; simp only [accN, colEx, exN, exNs]; omega
 | prNo => intro x j e; cases e
 | arEnd h c => intro x j e hi; cases e; simp only [accN, e1]; omega
 | arEndN => intro x j e; cases e
 | arFirst h a b ih1 ih2 =>
  intro x j e hi
  have h1 := ih1 _ _ rfl hi
  have h2 := ih2 x j e (rd_on a _ _ rfl hi).2
  simp only [accN, exNs] at *
  omega
 | arFirstE => intro x j e; cases e
 | arGo h h0 c a b ih1 ih2 =>
  intro x j e hi
  have := isT_lt c
  have h1 := ih1 _ _ rfl (by omega)
  have h2 := ih2 x j e (rd_on a _ _ rfl (by omega)).2
  simp only [accN, e2, exNs_app] at *
  omega
 | arGoE => intro x j e; cases e
 | arGoN => intro x j e; cases e
mutual
theorem strip_exN : ∀ e : Ex, exN (strip e) = exN e
 | .mk op name v A c args pos => by rw [strip, exN, exN, strip_exNs args]
theorem strip_exNs : ∀ l : List Ex, exNs (strips l) = exNs l
 | [] => by rw [strips]
 | a :: l => by rw [strips, exNs, exNs, strip_exN a, strip_exNs l]
end
def RPSays (R : Except (Int × Int) Ex) (w : World) (e : Ending) (w' : World) : Prop :=
 Below w.heap.size w w' ∧ match R with
  | .error (h, p) => e = .returned (.tuple #[exV zeroE, .int .i64 h, .int .i64 p])
  | .ok x => ∃ y, e = .returned (.tuple #[exV y, .int .i64 0, .int .i64 0]) ∧ SeesS (fun b => w.heap.size ≤ b) w' y ∧ strip y = x
theorem inNew (T : List Tok) (A : Option Addr) (c E : Nat) (w : World) (ht : SeesToks w A T.length c T) : InAt T E (w.alloc (.cells #[.slice A T.length c, .int .i64 0, .int .i64 E, .int .i64 (-1)] 92)) w.heap.size A c 0 none := by
 have hb := belowNew' w (.cells #[.slice A T.length c, .int .i64 0, .int .i64 E, .int .i64 (-1)] 92)
 refine ⟨heap_alloc_new w _, ht.keep hb, fun h0 ad e => ?_, Nat.zero_le _⟩
 obtain ⟨g, o, e2, hg, _⟩ := ht.2.2.2.2.2 h0
 rw [e] at e2
 injection e2 with e2
 rw [e2]
 exact Nat.ne_of_lt hg
theorem parse_ways {l : List UInt8} {R : Except (Int × Int) Ex} {T : List Tok} (hR : ParseIs l R) (hl : lexS l = .ok T) : ∃ r, Rd T l.length (.lv 0) 0 r ∧ ∀ y j st, IsR r y j st → j ≤ T.length →
  (∃ k : Nat, (st = some k ∨ st = none ∧ j < T.length ∧ k = atT T l.length j) ∧ R = .error (2, (k : Int))) ∨ (st = none ∧ T.length ≤ j ∧ exN y ≤ 400 ∧ ((fullB y = true ∧ R = .error (4, 0)) ∨ (fullB y = false ∧ R = .ok (strip y)))) := by
 rcases hR with ⟨h, p, hl', -⟩ | ⟨T', r, hl', hr, hw⟩
 ·rw [hl] at hl'; cases hl'
 ·rw [hl] at hl'
  injection hl' with hl'
  subst hl'
  refine ⟨r, hr, fun y j st hI hj => ?_⟩
  rcases hw with ⟨k, rfl, hR⟩ | ⟨x, j', rfl, hw⟩
  ·have hI : st = some k := hI
   exact Or.inl ⟨k, Or.inl hI, hR⟩
  ·obtain ⟨h1, rfl, h2⟩ := hI
   have hn := rd_exN hr _ _ rfl (Nat.zero_le _)
   have h4 := (words_of hl).len
   simp only [accN] at hn
   rcases hw with ⟨hj2, hR⟩ | ⟨hj2, hw⟩
   ·exact Or.inl ⟨_, Or.inr ⟨h1, hj2, rfl⟩, hR⟩
   ·refine Or.inr ⟨h1, hj2, by rw [← strip_exN, h2]; omega, ?_⟩
    rw [← strip_full, h2]
    exact hw
set_option maxHeartbeats 4000000 in
set_option maxRecDepth 100000 in
theorem rParse_any (s : ByteArray) (hs : s.size ≤ maxLen) {R : Except (Int × Int) Ex} (hR : ParseIs s.data.toList R) (w : World) : Calls Tryz.prog 23 #[.string s] w (RPSays R w) := by
 obtain ⟨w0, hw0, ho0, hb0⟩ := box_zeroE w
 have T1 := Lib.hid (rtokens_any s hs w0)
 have HW0 := Lib.hid hw0
 have HZ0 := Lib.hid ho0
 have HB0 := Lib.hid hb0
 clear hw0 ho0 hb0 hs
 cases hlx : lexS s.data.toList with
 | bad hh pp =>
  have HRR := Lib.hid (show R = .error (hh, (pp : Int)) by
   rcases hR with ⟨h, p, hl', hR⟩ | ⟨T', _, hl', _⟩
   ·rw [hlx] at hl'; injection hl' with e1 e2; subst e1 e2; exact hR
   ·rw [hlx] at hl'; cases hl')
  have hne : (hh != 0) = true := by simpa using (lexS_bad hlx).1
  rw [hlx] at T1
  unfold RLexSays LexR.toks LexR.how LexR.pos at T1
  have bz := run_zero
  clear hlx hR
  go_enter Tryz.func23, Tryz.ntmps23
  go_wp2_with (first | rw [HW0.out])
  refine (T1.out).mono ?_
  rintro e' w1 ⟨A, n, c, rfl, -, hb1⟩
  have HZ1 := Lib.hid (HZ0.out.keep hb1)
  have HB1 := Lib.hid (below_step HB0.out hb1)
  clear hb1 T1
  go_wp2_with (first
   | (refine wpList_put7 rfl (.tmp 2) (.tmp 19) rfl (X := zeroE) HZ1.out rfl (by rfl) ?_; intro wl hzl hol; have HZL := Lib.hid hzl; have HOL := Lib.hid hol; clear hzl hol))
  obtain ⟨o0, o1, o2, o3, o4, o5, o6⟩ := HZL.out.cells
  refine bodyPost_ret (v := .tuple #[exV zeroE, .int .i64 hh, .int .i64 pp]) ?_ rfl ?_
  ·simp [results, Tryz.results23, go_sem, o0, o1, o2, o3, o4, o5, o6, exV]
  ·rw [HRR.out]
   exact ⟨HB1.out.trans (HOL.out.below HB1.out.size (fun k e => by have e' : k = w.heap.size := e; omega)), rfl⟩
 | ok T =>
  obtain ⟨r, hr, hways⟩ := parse_ways hR hlx
  have HWAYS := Lib.hid hways
  have HWW := Lib.hid (words_of hlx)
  have HRD := Lib.hid hr
  rw [hlx] at T1
  unfold RLexSays LexR.toks LexR.how LexR.pos at T1
  have hne : ((0 : Int) != 0) = false := rfl
  clear hlx hR hways hr
  go_enter Tryz.func23, Tryz.ntmps23
  go_wp2_with (first | rw [HW0.out])
  refine (T1.out).mono ?_
  rintro e' w1 ⟨A, n, c, rfl, hst, hb1⟩
  obtain rfl := hst.1
  have hin := inNew T A c s.size w1 hst
  have hcap : T.length ≤ c := hst.2.2.1
  have hmax : c ≤ maxLen := hst.2.2.2.1
  unfold maxLen at hmax
  obtain ⟨w2, hw2⟩ : ∃ w2, w1.alloc (.cells #[.slice A T.length c, .int .i64 0, .int .i64 s.size, .int .i64 (-1)] 92) = w2 := ⟨_, rfl⟩
  have hb2 : Below w1.heap.size w1 w2 := by rw [← hw2]; exact belowNew' _ _
  rw [hw2] at hin
  have T2 := Lib.hid (inExpr_any HWW.out HRD.out w2 w1.heap.size A c hin)
  have HB2 := Lib.hid (below_step (below_step HB0.out hb1) hb2)
  have HZ2 := Lib.hid ((HZ0.out.keep hb1).keep hb2)
  have HSZ := Lib.hid (show w.heap.size < w1.heap.size ∧ w1.heap.size < w2.heap.size from ⟨(HZ0.out.keep hb1).lt, hin.lt⟩)
  have HOLDT := Lib.hid (show 0 < T.length → ∀ ad, A = some ad → ad.block < w1.heap.size from fun h0 ad e => by
   obtain ⟨g, o, e2, hg, _⟩ := hst.2.2.2.2.2 h0
   rw [e] at e2
   injection e2 with e2
   rw [e2]; exact hg)
  obtain ⟨n, hn⟩ : ∃ n, T.length = n := ⟨_, rfl⟩
  have HN := Lib.hid hn
  rw [hn] at hw2 hcap ⊢
  have HW2 := Lib.hid hw2
  clear hst hb1 hin hw2 hb2 T1 hn
  go_wp2_with (first | rw [HW2.out])
  refine (T2.out).mono ?_
  rintro e' w3 ⟨y, j, st, rfl, hy, hi3, hn3, hrr⟩
  obtain ⟨w4, hw4, ho4, hb4, -⟩ := box_ex w3 y
  have HI4 := Lib.hid (hi3.keep hb4)
  have HN4 := Lib.hid (hn3.trans (.of_below hb4))
  have HY := Lib.hid (((seesS_lt2 hy).keep (.of_below hb4)))
  have HO4 := Lib.hid ho4
  have HS4 := Lib.hid (show w2.heap.size ≤ w3.heap.size ∧ w3.heap.size < w4.heap.size from ⟨hn3.size, ho4.lt⟩)
  have HWY := Lib.hid (HWAYS.out y j st hrr hi3.le)
  have HW4 := Lib.hid hw4
  have hjl := hi3.le
  rw [HN.out] at hjl
  have hlen := HWW.out.len
  rw [HN.out] at hlen
  obtain ⟨c0, c1, c2, c3⟩ := HI4.out.cells
  rw [HN.out] at c0
  clear hy hi3 hn3 hrr hw4 ho4 hb4 T2
  unfold exV
  generalize hrb : w1.heap.size = rb at *
  have HRB := Lib.hid hrb
  clear hrb
  rcases HWY.out with ⟨k, hk, hRR⟩ | ⟨hst, hjn, hN4, hfull⟩
  ·rcases hk with rfl | ⟨rfl, hjn, rfl⟩
   ·unfold badV at c3
    by_cases hjn : j < n
    ·have g7 : decide ((j : Int) < (n : Int)) = true := decide_eq_true (by omega)
     have T3 := Lib.hid (inFail_any HI4.out HWW.out)
     go_wp2_with (first | rw [HW4.out])
     refine (T3.out).mono ?_
     rintro e' w5 ⟨rfl, hi5, hn5⟩
     have HI5 := Lib.hid (show InAt T s.size w5 rb A c j (some k) from hi5)
     have HN5 := Lib.hid (HN4.out.trans hn5)
     clear hi5 hn5 T3 c0 c1 c2 c3
     obtain ⟨d0, d1, d2, d3⟩ := HI5.out.cells
     have g8 : decide ((0 : Int) ≤ (k : Int)) = true := decide_eq_true (by omega)
     have hk8 : (0 : Int) ≤ (k : Int) := by omega
     unfold badV at d3
     have HZ5 := Lib.hid (own7_only HZ2.out HN5.out (fun e => by have := HSZ.out; have e' : w.heap.size = rb := e; omega))
     go_wp2_with fail
     refine wp_region_held (S := fun w' => w'.cell? ⟨rb, 3, none⟩ = some (.int .i64 k)) (by kernel_rfl) ?_
     change wpAnyH _ _ _ _ _ _ _ _ (World.drew w5)
     have HSS : (fun w' : World => w'.cell? ⟨rb, 3, none⟩ = some (.int .i64 k)) (World.drew w5) := d3
     refine takeH (i := 0) (d := some 43) (v := .agg #[.string ⟨#[]⟩, .string ⟨#[]⟩, .int .i64 0, .int .i64 0, .string ⟨#[]⟩, .slice none 0 0, .int .i64 0]) rfl rfl (by kernel_rfl) (by kernel_rfl) (by kernel_rfl) (fun _ _ _ h => h) (Or.inl ⟨by rfl, fun w' hS => by have bz := run_zero w'; go_simp⟩) HSS ?_
     simp only [Act.put, sA, sZ, sS]
     refine takeH (i := 1) (d := some 44) (v := .pointer (some ⟨rb, 0, none⟩)) rfl rfl (by kernel_rfl) (by kernel_rfl) (by kernel_rfl) (fun _ _ _ h => h) (Or.inl ⟨by rfl, fun w' hS => by go_simp⟩) HSS ?_
     simp only [Act.put, sA, sZ, sS]
     refine takeH (i := 2) (d := some 45) (v := .pointer (some ⟨rb, 0, none⟩)) rfl rfl (by kernel_rfl) (by kernel_rfl) (by kernel_rfl) (fun _ _ _ h => h) (Or.inl ⟨by rfl, fun w' hS => by go_simp⟩) HSS ?_
     simp only [Act.put, sA, sZ, sS]
     refine takeH (i := 3) (d := some 46) (v := .pointer (some ⟨rb, 3, none⟩)) rfl rfl (by kernel_rfl) (by kernel_rfl) (by kernel_rfl) (fun _ _ _ h => h) (Or.inl ⟨by rfl, fun w' hS => by go_simp⟩) HSS ?_
     simp only [Act.put, sA, sZ, sS]
     refine takeH (i := 4) (d := some 47) (v := .int .i64 k) rfl rfl (by kernel_rfl) (by kernel_rfl) (by kernel_rfl) (fun _ _ _ h => h) (Or.inl ⟨by rfl, fun w' hS => by have hS' : w'.cell? ⟨rb, 3, none⟩ = some (.int .i64 k) := hS; go_simp⟩) HSS ?_
     simp only [Act.put, sA, sZ, sS]
     refine wpAnyH_all (rs := [5]) (by kernel_rfl) (by simp) (fun jj hj => ?_)
     obtain rfl : jj = 5 := by simpa using hj
     refine wpOp_store7 rfl rfl _ _ rfl rfl (X := zeroE) (show Own7 (World.drew w5) w.heap.size zeroE from HZ5.out) rfl rfl ?_
     intro wf hzf hof
     have d3f : wf.cell? ⟨rb, 3, none⟩ = some (.int .i64 k) := only_cell hof.drewL d3 (fun e => by have := HSZ.out; have e' : rb = w.heap.size := e; omega)
     refine ⟨d3f, ?_⟩
     refine wpAnyH_all (rs := [6]) (by kernel_rfl) (by simp) (fun jj hj => ?_)
     obtain rfl : jj = 6 := by simpa using hj
     refine wpOp_valueD (d := some 3) rfl rfl (by rfl) (v := .int .i64 2) (w' := wf) (by go_simp) ?_
     refine ⟨d3f, ?_⟩
     simp only [Act.put, sA, sZ, sS]
     refine wpAnyH_all (rs := [7]) (by kernel_rfl) (by simp) (fun jj hj => ?_)
     obtain rfl : jj = 7 := by simpa using hj
     refine wpOp_valueD (d := some 4) rfl rfl (by rfl) (v := .int .i64 k) (w' := wf) (by go_simp) ?_
     refine ⟨d3f, ?_⟩
     refine wpAnyH_done (by kernel_rfl) ?_ _
     simp only [Act.put, sA, sZ, sS]
     have HZF := Lib.hid hzf
     have HFIN := Lib.hid (HB2.out.trans (HN5.out.below HB2.out.size (fun k e => by have := HSZ.out; have e' : k = rb := e; omega)) |>.trans (hof.drewL.below (Nat.le_trans HB2.out.size HN5.out.size) (fun k e => by have e' : k = w.heap.size := e; omega)))
     clear hzf hof d3f HSS d0 d1 d2 d3
     go_wp2_with fail
     obtain ⟨o0, o1, o2, o3, o4, o5, o6⟩ := HZF.out.cells
     refine bodyPost_ret (v := .tuple #[exV zeroE, .int .i64 2, .int .i64 k]) ?_ rfl ?_
     ·simp [results, Tryz.results23, go_sem, o0, o1, o2, o3, o4, o5, o6, exV]
     ·rw [hRR]
      exact ⟨HFIN.out, rfl⟩
    ·have g7 : decide ((j : Int) < (n : Int)) = false := decide_eq_false (by omega)
     have HI5 := HI4
     have HN5 := HN4
     have g8 : decide ((0 : Int) ≤ (k : Int)) = true := decide_eq_true (by omega)
     have hk8 : (0 : Int) ≤ (k : Int) := by omega
     go_wp2_with (first | rw [HW4.out])
     generalize w4 = w5 at HI5 HN5 ⊢
     obtain ⟨d0, d1, d2, d3⟩ := HI5.out.cells
     have g8 : decide ((0 : Int) ≤ (k : Int)) = true := decide_eq_true (by omega)
     have hk8 : (0 : Int) ≤ (k : Int) := by omega
     unfold badV at d3
     have HZ5 := Lib.hid (own7_only HZ2.out HN5.out (fun e => by have := HSZ.out; have e' : w.heap.size = rb := e; omega))
     go_wp2_with fail
     refine wp_region_held (S := fun w' => w'.cell? ⟨rb, 3, none⟩ = some (.int .i64 k)) (by kernel_rfl) ?_
     change wpAnyH _ _ _ _ _ _ _ _ (World.drew w5)
     have HSS : (fun w' : World => w'.cell? ⟨rb, 3, none⟩ = some (.int .i64 k)) (World.drew w5) := d3
     refine takeH (i := 0) (d := some 43) (v := .agg #[.string ⟨#[]⟩, .string ⟨#[]⟩, .int .i64 0, .int .i64 0, .string ⟨#[]⟩, .slice none 0 0, .int .i64 0]) rfl rfl (by kernel_rfl) (by kernel_rfl) (by kernel_rfl) (fun _ _ _ h => h) (Or.inl ⟨by rfl, fun w' hS => by have bz := run_zero w'; go_simp⟩) HSS ?_
     simp only [Act.put, sA, sZ, sS]
     refine takeH (i := 1) (d := some 44) (v := .pointer (some ⟨rb, 0, none⟩)) rfl rfl (by kernel_rfl) (by kernel_rfl) (by kernel_rfl) (fun _ _ _ h => h) (Or.inl ⟨by rfl, fun w' hS => by go_simp⟩) HSS ?_
     simp only [Act.put, sA, sZ, sS]
     refine takeH (i := 2) (d := some 45) (v := .pointer (some ⟨rb, 0, none⟩)) rfl rfl (by kernel_rfl) (by kernel_rfl) (by kernel_rfl) (fun _ _ _ h => h) (Or.inl ⟨by rfl, fun w' hS => by go_simp⟩) HSS ?_
     simp only [Act.put, sA, sZ, sS]
     refine takeH (i := 3) (d := some 46) (v := .pointer (some ⟨rb, 3, none⟩)) rfl rfl (by kernel_rfl) (by kernel_rfl) (by kernel_rfl) (fun _ _ _ h => h) (Or.inl ⟨by rfl, fun w' hS => by go_simp⟩) HSS ?_
     simp only [Act.put, sA, sZ, sS]
     refine takeH (i := 4) (d := some 47) (v := .int .i64 k) rfl rfl (by kernel_rfl) (by kernel_rfl) (by kernel_rfl) (fun _ _ _ h => h) (Or.inl ⟨by rfl, fun w' hS => by have hS' : w'.cell? ⟨rb, 3, none⟩ = some (.int .i64 k) := hS; go_simp⟩) HSS ?_
     simp only [Act.put, sA, sZ, sS]
     refine wpAnyH_all (rs := [5]) (by kernel_rfl) (by simp) (fun jj hj => ?_)
     obtain rfl : jj = 5 := by simpa using hj
     refine wpOp_store7 rfl rfl _ _ rfl rfl (X := zeroE) (show Own7 (World.drew w5) w.heap.size zeroE from HZ5.out) rfl rfl ?_
     intro wf hzf hof
     have d3f : wf.cell? ⟨rb, 3, none⟩ = some (.int .i64 k) := only_cell hof.drewL d3 (fun e => by have := HSZ.out; have e' : rb = w.heap.size := e; omega)
     refine ⟨d3f, ?_⟩
     refine wpAnyH_all (rs := [6]) (by kernel_rfl) (by simp) (fun jj hj => ?_)
     obtain rfl : jj = 6 := by simpa using hj
     refine wpOp_valueD (d := some 3) rfl rfl (by rfl) (v := .int .i64 2) (w' := wf) (by go_simp) ?_
     refine ⟨d3f, ?_⟩
     simp only [Act.put, sA, sZ, sS]
     refine wpAnyH_all (rs := [7]) (by kernel_rfl) (by simp) (fun jj hj => ?_)
     obtain rfl : jj = 7 := by simpa using hj
     refine wpOp_valueD (d := some 4) rfl rfl (by rfl) (v := .int .i64 k) (w' := wf) (by go_simp) ?_
     refine ⟨d3f, ?_⟩
     refine wpAnyH_done (by kernel_rfl) ?_ _
     simp only [Act.put, sA, sZ, sS]
     have HZF := Lib.hid hzf
     have HFIN := Lib.hid (HB2.out.trans (HN5.out.below HB2.out.size (fun k e => by have := HSZ.out; have e' : k = rb := e; omega)) |>.trans (hof.drewL.below (Nat.le_trans HB2.out.size HN5.out.size) (fun k e => by have e' : k = w.heap.size := e; omega)))
     clear hzf hof d3f HSS d0 d1 d2 d3
     go_wp2_with fail
     obtain ⟨o0, o1, o2, o3, o4, o5, o6⟩ := HZF.out.cells
     refine bodyPost_ret (v := .tuple #[exV zeroE, .int .i64 2, .int .i64 k]) ?_ rfl ?_
     ·simp [results, Tryz.results23, go_sem, o0, o1, o2, o3, o4, o5, o6, exV]
     ·rw [hRR]
      exact ⟨HFIN.out, rfl⟩
   ·rw [HN.out] at hjn
    obtain ⟨k, hkk⟩ : ∃ k, atT T s.data.toList.length j = k := ⟨_, rfl⟩
    have hkk' : atT T s.size j = k := hkk
    rw [hkk] at hRR
    have g7 : decide ((j : Int) < (n : Int)) = true := decide_eq_true (by omega)
    unfold badV at c3
    have T3 := Lib.hid (inFail_any HI4.out HWW.out)
    go_wp2_with (first | rw [HW4.out])
    refine (T3.out).mono ?_
    rintro e' w5 ⟨rfl, hi5, hn5⟩
    have HI5 := Lib.hid (show InAt T s.size w5 rb A c j (some k) from by rw [← hkk']; exact hi5)
    have HN5 := Lib.hid (HN4.out.trans hn5)
    clear hi5 hn5 T3 c0 c1 c2 c3 hkk hkk'
    obtain ⟨d0, d1, d2, d3⟩ := HI5.out.cells
    have g8 : decide ((0 : Int) ≤ (k : Int)) = true := decide_eq_true (by omega)
    have hk8 : (0 : Int) ≤ (k : Int) := by omega
    unfold badV at d3
    have HZ5 := Lib.hid (own7_only HZ2.out HN5.out (fun e => by have := HSZ.out; have e' : w.heap.size = rb := e; omega))
    go_wp2_with fail
    refine wp_region_held (S := fun w' => w'.cell? ⟨rb, 3, none⟩ = some (.int .i64 k)) (by kernel_rfl) ?_
    change wpAnyH _ _ _ _ _ _ _ _ (World.drew w5)
    have HSS : (fun w' : World => w'.cell? ⟨rb, 3, none⟩ = some (.int .i64 k)) (World.drew w5) := d3
    refine takeH (i := 0) (d := some 43) (v := .agg #[.string ⟨#[]⟩, .string ⟨#[]⟩, .int .i64 0, .int .i64 0, .string ⟨#[]⟩, .slice none 0 0, .int .i64 0]) rfl rfl (by kernel_rfl) (by kernel_rfl) (by kernel_rfl) (fun _ _ _ h => h) (Or.inl ⟨by rfl, fun w' hS => by have bz := run_zero w'; go_simp⟩) HSS ?_
    simp only [Act.put, sA, sZ, sS]
    refine takeH (i := 1) (d := some 44) (v := .pointer (some ⟨rb, 0, none⟩)) rfl rfl (by kernel_rfl) (by kernel_rfl) (by kernel_rfl) (fun _ _ _ h => h) (Or.inl ⟨by rfl, fun w' hS => by go_simp⟩) HSS ?_
    simp only [Act.put, sA, sZ, sS]
    refine takeH (i := 2) (d := some 45) (v := .pointer (some ⟨rb, 0, none⟩)) rfl rfl (by kernel_rfl) (by kernel_rfl) (by kernel_rfl) (fun _ _ _ h => h) (Or.inl ⟨by rfl, fun w' hS => by go_simp⟩) HSS ?_
    simp only [Act.put, sA, sZ, sS]
    refine takeH (i := 3) (d := some 46) (v := .pointer (some ⟨rb, 3, none⟩)) rfl rfl (by kernel_rfl) (by kernel_rfl) (by kernel_rfl) (fun _ _ _ h => h) (Or.inl ⟨by rfl, fun w' hS => by go_simp⟩) HSS ?_
    simp only [Act.put, sA, sZ, sS]
    refine takeH (i := 4) (d := some 47) (v := .int .i64 k) rfl rfl (by kernel_rfl) (by kernel_rfl) (by kernel_rfl) (fun _ _ _ h => h) (Or.inl ⟨by rfl, fun w' hS => by have hS' : w'.cell? ⟨rb, 3, none⟩ = some (.int .i64 k) := hS; go_simp⟩) HSS ?_
    simp only [Act.put, sA, sZ, sS]
    refine wpAnyH_all (rs := [5]) (by kernel_rfl) (by simp) (fun jj hj => ?_)
    obtain rfl : jj = 5 := by simpa using hj
    refine wpOp_store7 rfl rfl _ _ rfl rfl (X := zeroE) (show Own7 (World.drew w5) w.heap.size zeroE from HZ5.out) rfl rfl ?_
    intro wf hzf hof
    have d3f : wf.cell? ⟨rb, 3, none⟩ = some (.int .i64 k) := only_cell hof.drewL d3 (fun e => by have := HSZ.out; have e' : rb = w.heap.size := e; omega)
    refine ⟨d3f, ?_⟩
    refine wpAnyH_all (rs := [6]) (by kernel_rfl) (by simp) (fun jj hj => ?_)
    obtain rfl : jj = 6 := by simpa using hj
    refine wpOp_valueD (d := some 3) rfl rfl (by rfl) (v := .int .i64 2) (w' := wf) (by go_simp) ?_
    refine ⟨d3f, ?_⟩
    simp only [Act.put, sA, sZ, sS]
    refine wpAnyH_all (rs := [7]) (by kernel_rfl) (by simp) (fun jj hj => ?_)
    obtain rfl : jj = 7 := by simpa using hj
    refine wpOp_valueD (d := some 4) rfl rfl (by rfl) (v := .int .i64 k) (w' := wf) (by go_simp) ?_
    refine ⟨d3f, ?_⟩
    refine wpAnyH_done (by kernel_rfl) ?_ _
    simp only [Act.put, sA, sZ, sS]
    have HZF := Lib.hid hzf
    have HFIN := Lib.hid (HB2.out.trans (HN5.out.below HB2.out.size (fun k e => by have := HSZ.out; have e' : k = rb := e; omega)) |>.trans (hof.drewL.below (Nat.le_trans HB2.out.size HN5.out.size) (fun k e => by have e' : k = w.heap.size := e; omega)))
    clear hzf hof d3f HSS d0 d1 d2 d3
    go_wp2_with fail
    obtain ⟨o0, o1, o2, o3, o4, o5, o6⟩ := HZF.out.cells
    refine bodyPost_ret (v := .tuple #[exV zeroE, .int .i64 2, .int .i64 k]) ?_ rfl ?_
    ·simp [results, Tryz.results23, go_sem, o0, o1, o2, o3, o4, o5, o6, exV]
    ·rw [hRR]
     exact ⟨HFIN.out, rfl⟩
  ·subst hst
   rw [HN.out] at hjn
   have g7 : decide ((j : Int) < (n : Int)) = false := decide_eq_false (by omega)
   have g8 : decide ((0 : Int) ≤ (-1 : Int)) = false := rfl
   unfold badV at c3
   have T5 := Lib.hid (rsmall_any y w4 HY.out.see (by omega))
   unfold exV at T5
   obtain ⟨x0, x1, x2, x3, x4, x5, x6⟩ := HO4.out.cells
   have hl4 := HO4.out.lt
   have HNF := Lib.hid (show Only (fun k => k = rb) w2 w4 from HN4.out)
   have HZ4 := Lib.hid (own7_only HZ2.out HN4.out (fun e => by have := HSZ.out; have e' : w.heap.size = rb := e; omega))
   have HBF := Lib.hid (show Below w.heap.size w w4 from HB2.out.trans (HN4.out.below HB2.out.size (fun k e => by have := HSZ.out; have e' : k = rb := e; omega)))
   rcases hfull with ⟨hf, hRR⟩ | ⟨hf, hRR⟩
   ·rw [hf] at T5
    clear hf
    go_wp2_with (first | rw [HW4.out])
    refine (T5.out).mono ?_
    rintro e' w5 ⟨rfl, hb5⟩
    have HZ5 := Lib.hid (HZ4.out.keep hb5)
    have HB5 := Lib.hid (below_step HBF.out hb5)
    obtain ⟨z0, z1, z2, z3, z4, z5, z6⟩ := (HO4.out.keep hb5).cells
    have hl5 := (HO4.out.keep hb5).lt
    have HY5 := Lib.hid (HY.out.keep (.of_below hb5))
    have bz := run_zero
    clear hb5 T5 x0 x1 x2 x3 x4 x5 x6 hl4
    go_wp2_with (first
     | (refine wpList_put7 rfl (.tmp 2) (.tmp 52) rfl (X := zeroE) HZ5.out rfl (by rfl) ?_; intro wl hzl hol; have HZL := Lib.hid hzl; have HOL := Lib.hid hol; clear hzl hol))
    obtain ⟨o0, o1, o2, o3, o4, o5, o6⟩ := HZL.out.cells
    refine bodyPost_ret (v := .tuple #[exV zeroE, .int .i64 4, .int .i64 0]) ?_ rfl ?_
    ·simp [results, Tryz.results23, go_sem, o0, o1, o2, o3, o4, o5, o6, exV]
    ·rw [hRR]
     have hfin := HB5.out.trans (HOL.out.below HB5.out.size (fun k e => by have e' : k = w.heap.size := e; omega))
     exact ⟨hfin, rfl⟩
   ·rw [hf] at T5
    clear hf
    go_wp2_with (first | rw [HW4.out])
    refine (T5.out).mono ?_
    rintro e' w5 ⟨rfl, hb5⟩
    have HZ5 := Lib.hid (HZ4.out.keep hb5)
    have HB5 := Lib.hid (below_step HBF.out hb5)
    obtain ⟨z0, z1, z2, z3, z4, z5, z6⟩ := (HO4.out.keep hb5).cells
    have hl5 := (HO4.out.keep hb5).lt
    have HY5 := Lib.hid (HY.out.keep (.of_below hb5))
    have bz := run_zero
    clear hb5 T5 x0 x1 x2 x3 x4 x5 x6 hl4
    go_wp2_with (first
     | (refine wpList_put7 rfl (.tmp 2) (.tmp 53) rfl (X := y) HZ5.out rfl (by rfl) ?_; intro wl hzl hol; have HZL := Lib.hid hzl; have HOL := Lib.hid hol; clear hzl hol))
    obtain ⟨o0, o1, o2, o3, o4, o5, o6⟩ := HZL.out.cells
    refine bodyPost_ret (v := .tuple #[exV y, .int .i64 0, .int .i64 0]) ?_ rfl ?_
    ·simp [results, Tryz.results23, go_sem, o0, o1, o2, o3, o4, o5, o6, exV]
    ·rw [hRR]
     have hfin := HB5.out.trans (HOL.out.below HB5.out.size (fun k e => by have e' : k = w.heap.size := e; omega))
     exact ⟨hfin, y, rfl, (HY5.out.keep (alike_only2 HOL.out (fun b hb e => by have := HSZ.out; have h1 : w2.heap.size ≤ b := hb.1; have e' : b = w.heap.size := e; omega))).mono (fun b hb => by have := HSZ.out; have h1 : w2.heap.size ≤ b := hb.1; omega), rfl⟩
end Go.Proofs.YtjoeeilncekgpaaGreatDoor
