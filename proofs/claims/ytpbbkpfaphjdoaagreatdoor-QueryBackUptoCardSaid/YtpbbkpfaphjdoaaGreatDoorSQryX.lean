/- A region in any order: an operation that only reads may be taken first, where what it reads is held till one comes up that waits for it (number d). No program in sight. Queries as they lie: what a walk sees of one. -/
import Derived.Test.YtpbbkpfaphjdoaaGreatDoorSRdGo
import Derived.Test.YtpbbkpfaphjdoaaGreatDoorSQryAgg
namespace Go.Proofs.YtpbbkpfaphjdoaaGreatDoor
open Go
theorem aS {α : Type} (l : List α) (i : Nat) (a : α) : l.toArray.setIfInBounds i a = (l.set i a).toArray := List.setIfInBounds_toArray ..
theorem aZ {α : Type} (x a : α) (l : List α) : (x :: l).set 0 a = a :: l := List.set_cons_zero ..
theorem aC {α : Type} (x a : α) (l : List α) (n : Nat) : (x :: l).set (n + 1) a = x :: l.set n a := List.set_cons_succ ..
section
variable {P : Program} {md : Region.Mode} {ops : Array Oper} {Q : Exit → Act → World → Prop} {C : World → Prop} {d : Nat}
def wpAnyD (P : Program) (md : Region.Mode) (ops : Array Oper) (Q : Exit → Act → World → Prop) (C : World → Prop) (d : Nat) : Nat → Array Bool → Act → World → Prop
 | 0, listed, a, w => Region.ready md ops listed = [] ∧ Q .normal a w
 | fuel + 1, listed, a, w =>
  (Region.ready md ops listed = [] → Q .normal a w) ∧
  ∀ i ∈ Region.ready md ops listed, wpOp P ops Q i (fun a' w' => ((listed.setIfInBounds i true).getD d true = true ∨ C w') ∧ wpAnyD P md ops Q C d fuel (listed.setIfInBounds i true) a' w') a w
theorem wpAny_of_D : ∀ (fuel : Nat) (listed : Array Bool) (a : Act) (w : World), wpAnyD P md ops Q C d fuel listed a w → wpAny P md ops Q fuel listed a w
 | 0, _, _, _, h => h
 | fuel + 1, _, _, _, h => ⟨h.1, fun i hi => wpOp_mono (fun a' w' h' => wpAny_of_D fuel _ a' w' h'.2) (h.2 i hi)⟩
theorem firstD {i : Nat} {oi : Oper} {v : Value} (hi : ops[i]? = some oi) (hsel : ∀ (j : Nat) (o : Oper) cs b, ops[j]? = some o → o.op ≠ .select cs b)
  (hQ : ∀ c a w, Q (.panic c) (a.put oi.dst v) w → Q (.panic c) a w) (hid : i ≠ d) (Y : World → Prop)
  (hY : (∀ w, Y w) ∨ ((∀ w, C w → Y w) ∧ ∃ od, ops[d]? = some od ∧ ∃ e ∈ od.after, Region.binds md e = true ∧ e.on = i)) :
  ∀ (fuel : Nat) (listed : Array Bool) (a : Act) (w : World),
   (∀ j oj, ops[j]? = some oj → j ≠ i → listed.getD j true = false → (∀ e ∈ oj.after, Region.binds md e = true → e.on ≠ i) → oi.apart ops oj = true) →
   i ∈ Region.ready md ops listed → YieldsIf P ops Y oi v a → ((∀ w, Y w) ∨ listed.getD d true = false) → (listed.getD d true = true ∨ C w) →
   wpAnyD P md ops Q C d fuel (listed.setIfInBounds i true) (a.put oi.dst v) w → wpAnyD P md ops Q C d (fuel + 1) listed a w := by
 have yes : ∀ (listed : Array Bool) (w : World), ((∀ w, Y w) ∨ listed.getD d true = false) → (listed.getD d true = true ∨ C w) → Y w := fun listed w h1 h2 => by
  rcases h1 with h1 | h1
  ·exact h1 w
  ·rcases h2 with h2 | h2
   ·rw [h1] at h2; cases h2
   ·rcases hY with h | ⟨h, -⟩
    ·exact h w
    ·exact h w h2
 have keep : ∀ (listed : Array Bool) (j : Nat), j ≠ d → (listed.setIfInBounds j true).getD d true = listed.getD d true := fun listed j h => getD_set_ne true h
 intro fuel
 induction fuel with
 | zero =>
  intro listed a w _ hr hy hd hS H
  refine ⟨fun h => (by rw [h] at hr; cases hr), fun j hj => ?_⟩
  by_cases hji : j = i
  ·subst hji; exact hy.wpOp hi (yes _ _ hd hS) ⟨by rw [keep _ _ hid]; exact hS, H⟩
  ·have := ready_mono hj hji
   rw [H.1] at this
   cases this
 | succ fuel ih =>
  intro listed a w hfree hr hy hd hS H
  refine ⟨fun h => (by rw [h] at hr; cases hr), fun j hj => ?_⟩
  by_cases hji : j = i
  ·subst hji; exact hy.wpOp hi (yes _ _ hd hS) ⟨by rw [keep _ _ hid]; exact hS, H⟩
  ·have h1 := H.2 j (ready_mono hj hji)
   obtain ⟨hjun, oj, hoj, hall⟩ := mem_ready.1 hj
   have hnot : ∀ e ∈ oj.after, Region.binds md e = true → e.on ≠ i := fun e he hb heq => by
    have h1 := hall e he hb
    have h0 := (mem_ready.1 hr).1
    rw [heq] at h1
    rcases Nat.lt_or_ge i listed.size with h' | h'
    ·simp [h'] at h0 h1; rw [h0] at h1; cases h1
    ·simp [Array.getElem?_eq_none h'] at h1
   have h2 := wpOp_putIf hoj (hfree j oj hoj hji hjun hnot) (fun cs b => hsel i oi cs b hi) (fun cs b => hsel j oj cs b hoj) hQ hy h1
   have hfree' : ∀ k ok, ops[k]? = some ok → k ≠ i → (listed.setIfInBounds j true).getD k true = false →
     (∀ e ∈ ok.after, Region.binds md e = true → e.on ≠ i) → oi.apart ops ok = true := fun k ok hk hki hun hno => by
    refine hfree k ok hk hki ?_ hno
    by_cases hjk : j = k
    ·subst hjk; exact hjun
    ·rw [getD_set_ne true hjk] at hun; exact hun
   refine wpOp_mono (fun a' w' h3 => ?_) h2
   have hc : (listed.setIfInBounds j true).getD d true = true ∨ C w' := by
    rcases h3.2.1 with h | h
    ·rw [Array.setIfInBounds_comm _ _ (Ne.symm hji), keep _ _ hid] at h; exact Or.inl h
    ·exact Or.inr h
   have hd' : (∀ w, Y w) ∨ (listed.setIfInBounds j true).getD d true = false := by
    rcases hY with h | ⟨-, od, hod, e, he, hb, heq⟩
    ·exact Or.inl h
    ·rcases hd with h | h
     ·exact Or.inl h
     ·refine Or.inr ?_
      have hjd : j ≠ d := fun hjd => by
       subst hjd
       rw [hoj] at hod
       injection hod with hod
       subst hod
       exact hnot e he hb heq
      rw [keep _ _ hjd]; exact h
   refine ⟨hc, ih (listed.setIfInBounds j true) a' w' hfree' (ready_mono hr (Ne.symm hji)) h3.1 hd' hc ?_⟩
   rw [Array.setIfInBounds_comm _ _ hji]
   exact h3.2.2
theorem takeD {i : Nat} {oi : Oper} {dst : Option Tmp} {v : Value} {fuel : Nat} {listed : Array Bool} {a : Act} {w : World} (hi : ops[i]? = some oi) (hd : oi.dst = dst)
  (hs : Region.noSelect ops = true) (hf : Region.free md ops listed i = true) (hr : (Region.ready md ops listed).contains i = true)
  (hQ : ∀ c a w, Q (.panic c) (a.put dst v) w → Q (.panic c) a w) (hid : i ≠ d) (hw : (match ops[d]? with | some od => od.after.any (fun e => Region.binds md e && e.on == i) | none => false) = true) (hl : listed.getD d true = false) (hy : YieldsIf P ops C oi v a) (hS : C w)
  (h : wpAnyD P md ops Q C d fuel (listed.setIfInBounds i true) (a.put dst v) w) : wpAnyD P md ops Q C d (fuel + 1) listed a w := by
 subst hd
 refine firstD hi (Region.noSelect_spec hs) hQ hid C (Or.inr ⟨fun _ h => h, ?_⟩) fuel listed a w (Region.free_spec hi hf) (by simpa using hr) hy (Or.inr hl) (Or.inr hS) h
 cases ho : ops[d]? with
 | none => rw [ho] at hw; cases hw
 | some od =>
  rw [ho] at hw
  obtain ⟨k, hk, h2⟩ := Array.any_eq_true.1 hw
  simp only [Bool.and_eq_true, beq_iff_eq] at h2
  exact ⟨od, rfl, _, Array.getElem_mem hk, h2.1, h2.2⟩
theorem takeP {i : Nat} {oi : Oper} {dst : Option Tmp} {v : Value} {fuel : Nat} {listed : Array Bool} {a : Act} {w : World} (hi : ops[i]? = some oi) (hd : oi.dst = dst)
  (hs : Region.noSelect ops = true) (hf : Region.free md ops listed i = true) (hr : (Region.ready md ops listed).contains i = true)
  (hQ : ∀ c a w, Q (.panic c) (a.put dst v) w → Q (.panic c) a w) (hid : i ≠ d) (hy : YieldsIf P ops (fun _ => True) oi v a) (hS : listed.getD d true = true ∨ C w)
  (h : wpAnyD P md ops Q C d fuel (listed.setIfInBounds i true) (a.put dst v) w) : wpAnyD P md ops Q C d (fuel + 1) listed a w := by
 subst hd
 exact firstD hi (Region.noSelect_spec hs) hQ hid (fun _ => True) (Or.inl fun _ => trivial) fuel listed a w (Region.free_spec hi hf) (by simpa using hr) hy (Or.inl fun _ => trivial) hS h
theorem allD {rs : List Nat} {fuel : Nat} {listed : Array Bool} {a : Act} {w : World} (hr : Region.ready md ops listed = rs) (hne : rs ≠ [])
  (h : ∀ i ∈ rs, wpOp P ops Q i (fun a' w' => ((listed.setIfInBounds i true).getD d true = true ∨ C w') ∧ wpAnyD P md ops Q C d fuel (listed.setIfInBounds i true) a' w') a w) : wpAnyD P md ops Q C d (fuel + 1) listed a w :=
 ⟨fun h0 => absurd (hr ▸ h0) hne, hr ▸ h⟩
theorem oneD {i : Nat} {fuel : Nat} {listed : Array Bool} {a : Act} {w : World} (hr : Region.ready md ops listed = [i])
  (h : wpOp P ops Q i (fun a' w' => ((listed.setIfInBounds i true).getD d true = true ∨ C w') ∧ wpAnyD P md ops Q C d fuel (listed.setIfInBounds i true) a' w') a w) : wpAnyD P md ops Q C d (fuel + 1) listed a w :=
 allD hr (by simp) (fun j hj => by obtain rfl : j = i := (by simpa using hj); exact h)
theorem doneD {listed : Array Bool} {a : Act} {w : World} (hr : Region.ready md ops listed = []) (h : Q .normal a w) : ∀ fuel, wpAnyD P md ops Q C d fuel listed a w
 | 0 => ⟨hr, h⟩
 | _ + 1 => ⟨fun _ => h, by rw [hr]; simp⟩
theorem regionD {id : Nat} {a : Act} {w : World} (C : World → Prop) (d : Nat) (hm : P.follows .mixedOrders = true)
  (h : wpAnyD P .any ops Q C d ops.size (Array.replicate ops.size false) a w.drew) : (Code.region id ops true).wp P Q a w :=
 wp_region_any hm (wpAny_of_D _ _ _ _ h)
end
end Go.Proofs.YtpbbkpfaphjdoaaGreatDoor
namespace Go.Proofs.YtpbbkpfaphjdoaaGreatDoor
open Go.ChangeShapes Go.WideShapes Go.ChangeAt Go.RowKit
structure QX where
 from_ : ByteArray
 wher : Ex
 CA : Option Addr
 cc : Nat
 cols : List Ex
 NA : Option Addr
 nc : Nat
 names : List ByteArray
 GA : Option Addr
 gc : Nat
 group : List ByteArray
 size : Int
 slide : Int
 AA : Option Addr
 ac : Nat
 aggs : List AggX
def qL (fr : ByteArray) (wh : Ex) (vc vn vg : Value) (sz sl : Int) (va : Value) : List Value := [.string fr, .string wh.op, .string wh.name, .int .i64 wh.val.type, .int .i64 wh.val.n, .string wh.val.s, .slice wh.A wh.args.length wh.c, .int .i64 wh.pos, vc, vn, vg, .int .i64 sz, .int .i64 sl, va]
def qxL (q : QX) : List Value := qL q.from_ q.wher (.slice q.CA q.cols.length q.cc) (.slice q.NA q.names.length q.nc) (.slice q.GA q.group.length q.gc) q.size q.slide (.slice q.AA q.aggs.length q.ac)
def qxV (q : QX) : Value := .agg #[.string q.from_, .string q.wher.op, .string q.wher.name, .int .i64 q.wher.val.type, .int .i64 q.wher.val.n, .string q.wher.val.s, .slice q.wher.A q.wher.args.length q.wher.c, .int .i64 q.wher.pos, .slice q.CA q.cols.length q.cc, .slice q.NA q.names.length q.nc, .slice q.GA q.group.length q.gc, .int .i64 q.size, .int .i64 q.slide, .slice q.AA q.aggs.length q.ac]
def qpX (q : QX) : QP := ⟨q.from_.data.toList, strip q.wher, strips q.cols, q.names.map (·.data.toList), q.group.map (·.data.toList), q.size, q.slide, q.aggs.map aggP⟩
def SeesIn (S : Nat → Prop) (w : World) (A : Option Addr) (n c size : Nat) (xs : List Value) : Prop := Sees w A n c size xs ∧ ∀ ad, A = some ad → 0 < n → S ad.block
theorem SeesIn.keep {S : Nat → Prop} {w w' : World} {A : Option Addr} {n c size : Nat} {xs : List Value} (h : SeesIn S w A n c size xs) (hb : Alike S w w') : SeesIn S w' A n c size xs := by
 refine ⟨⟨h.1.1, h.1.2.1, h.1.2.2.1, h.1.2.2.2.1, fun hn => ?_⟩, h.2⟩
 obtain ⟨g, o, e, hg, hc⟩ := h.1.2.2.2.2 hn
 have hS := h.2 _ e hn
 exact ⟨g, o, e, Nat.lt_of_lt_of_le hg hb.size, fun k u hu => (World.cell?_of_block (w := w) (w' := w') (a := ⟨g, o + k, none⟩) (hb.block g hS hg)).trans (hc k u hu)⟩
theorem SeesIn.mono {S T : Nat → Prop} {w : World} {A : Option Addr} {n c size : Nat} {xs : List Value} (h : SeesIn S w A n c size xs) (hT : ∀ b, S b → T b) : SeesIn T w A n c size xs := ⟨h.1, fun ad e hn => hT _ (h.2 ad e hn)⟩
theorem SeesIn.nil (S : Nat → Prop) (w : World) (size : Nat) : SeesIn S w none 0 0 size [] := ⟨Sees.nil w size, fun _ e => by cases e⟩
theorem SeesIn.of_own {S : Nat → Prop} {w : World} {B e size : Nat} {v : Value} {n : Nat} {xs : List Value} (h : w.ownsRow B e size v n xs) (hS : ∀ b, B ≤ b → v.ownBlock = some b → S b) : ∃ A c, v = .slice A n c ∧ SeesIn S w A n c size xs := by
 obtain ⟨A, c, rfl, hs⟩ := Sees.of_own h
 refine ⟨A, c, rfl, hs, fun ad e hn => ?_⟩
 subst e
 obtain ⟨g, o, e, hg, -⟩ := hs.2.2.2.2 hn
 injection e with e
 subst e
 have ho : (Value.slice (some ⟨g, o, none⟩) n c).ownBlock = some g := rfl
 exact hS g (h.lt g ho).1 ho
structure SeesQ (S : Nat → Prop) (w : World) (q : QX) : Prop where
 wher : SeesS S w q.wher
 cols : SeesIn S w q.CA q.cols.length q.cc 7 (exsCells q.cols)
 colsAt : ∀ x ∈ q.cols, SeesS S w x
 names : SeesIn S w q.NA q.names.length q.nc 1 (strCells q.names)
 group : SeesIn S w q.GA q.group.length q.gc 1 (strCells q.group)
 aggs : SeesIn S w q.AA q.aggs.length q.ac 9 (aggXs q.aggs)
 aggsAt : ∀ a ∈ q.aggs, SeesS S w a.of
 sizes : q.from_.size ≤ maxLen ∧ (∀ s ∈ q.names, s.size ≤ maxLen) ∧ (∀ s ∈ q.group, s.size ≤ maxLen) ∧ ∀ a ∈ q.aggs, a.what.size ≤ maxLen ∧ a.name.size ≤ maxLen
 nums : fits q.size ∧ fits q.slide
theorem SeesQ.keep {S : Nat → Prop} {w w' : World} {q : QX} (h : SeesQ S w q) (hb : Alike S w w') : SeesQ S w' q :=
 ⟨h.wher.keep hb, h.cols.keep hb, fun x hx => (h.colsAt x hx).keep hb, h.names.keep hb, h.group.keep hb, h.aggs.keep hb, fun a ha => (h.aggsAt a ha).keep hb, h.sizes, h.nums⟩
theorem SeesQ.mono {S T : Nat → Prop} {w : World} {q : QX} (h : SeesQ S w q) (hT : ∀ b, S b → T b) : SeesQ T w q :=
 ⟨h.wher.mono hT, h.cols.mono hT, fun x hx => (h.colsAt x hx).mono hT, h.names.mono hT, h.group.mono hT, h.aggs.mono hT, fun a ha => (h.aggsAt a ha).mono hT, h.sizes, h.nums⟩
def zeroQX : QX := ⟨⟨#[]⟩, zeroE, none, 0, [], none, 0, [], none, 0, [], 0, 0, none, 0, []⟩
theorem zeroQX_sees (S : Nat → Prop) (w : World) : SeesQ S w zeroQX :=
 ⟨seesS_leaf (by decide) (by decide) ⟨show fits 0 by decide, show fits 0 by decide, Nat.zero_le _⟩ (show fits 0 by decide), SeesIn.nil S w 7, (fun x h => by cases h), SeesIn.nil S w 1, SeesIn.nil S w 1, SeesIn.nil S w 9, (fun x h => by cases h), ⟨Nat.zero_le _, (fun s h => by cases h), (fun s h => by cases h), (fun s h => by cases h)⟩, ⟨show fits 0 by decide, show fits 0 by decide⟩⟩
def QSays2 {α : Type} (T : List Tok) (E : Nat) (rb qb : Nat) (A : Option Addr) (c : Nat) (w : World) (V : α → Value → World → Prop) : QR α → Ending → World → Prop
 | .ok (x, j), e, w' => ∃ v, e = .returned v ∧ V x v w' ∧ RdAt T E w' rb A c j ∧ Only (fun k => k = rb ∨ k = qb) w w'
 | .error k, e, w' => e = wrongAt k ∧ Only (fun k => k = rb ∨ k = qb) w w'
theorem RdAt.other2 {T : List Tok} {E : Nat} {w w' : World} {rb : Nat} {A : Option Addr} {c i : Nat} {S : Nat → Prop} (h : RdAt T E w rb A c i) (ho : Only S w w') (h1 : ¬ S rb) (h2 : 0 < T.length → ∀ ad, A = some ad → ¬ S ad.block) : RdAt T E w' rb A c i :=
 ⟨(ho.block rb h.lt h1).trans h.box, ⟨h.toks.1, ho.sees_far h.toks.2 (fun h0 ad e hr => h2 h0 ad e hr)⟩, h.far, h.le⟩
theorem aggSlice : SliceTy Tryz.prog 28 99 (.agg #[.string ⟨#[]⟩, .string ⟨#[]⟩, .string ⟨#[]⟩, .int .i64 0, .int .i64 0, .string ⟨#[]⟩, .slice none 0 0, .int .i64 0, .string ⟨#[]⟩]) 9 128 := SliceTy.of Tryz.underlying28 (by kernel_rfl) rfl (by decide) (by decide)
theorem strCells_snoc' (l : List ByteArray) (s : ByteArray) : strCells (l ++ [s]) = strCells l ++ [.string s] := by simp [strCells]
end Go.Proofs.YtpbbkpfaphjdoaaGreatDoor
