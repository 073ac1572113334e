/- Queries as they lie: what a walk sees of one. -/
import Derived.Test.YtpbbkpfaphjdoabGreatDoorSQryAgg
import Derived.Test.YtpbbkpfaphjdoabGreatDoorSHeldD
namespace Go.Proofs.YtpbbkpfaphjdoabGreatDoor
open Go.ChangeShapes Go.WideShapes Go.ChangeAt Go.RowKit
structure QX where
 from_ : ByteArray
 wher : Ex
 CA : Option Addr
 cc : Nat
 cols : List Ex
 NA : Option Addr
 nc : Nat
 names : List ByteArray
 GA : Option Addr
 gc : Nat
 group : List ByteArray
 size : Int
 slide : Int
 AA : Option Addr
 ac : Nat
 aggs : List AggX
def qL (fr : ByteArray) (wh : Ex) (vc vn vg : Value) (sz sl : Int) (va : Value) : List Value := [.string fr, .string wh.op, .string wh.name, .int .i64 wh.val.type, .int .i64 wh.val.n, .string wh.val.s, .slice wh.A wh.args.length wh.c, .int .i64 wh.pos, vc, vn, vg, .int .i64 sz, .int .i64 sl, va]
def qxL (q : QX) : List Value := qL q.from_ q.wher (.slice q.CA q.cols.length q.cc) (.slice q.NA q.names.length q.nc) (.slice q.GA q.group.length q.gc) q.size q.slide (.slice q.AA q.aggs.length q.ac)
def qxV (q : QX) : Value := .agg #[.string q.from_, .string q.wher.op, .string q.wher.name, .int .i64 q.wher.val.type, .int .i64 q.wher.val.n, .string q.wher.val.s, .slice q.wher.A q.wher.args.length q.wher.c, .int .i64 q.wher.pos, .slice q.CA q.cols.length q.cc, .slice q.NA q.names.length q.nc, .slice q.GA q.group.length q.gc, .int .i64 q.size, .int .i64 q.slide, .slice q.AA q.aggs.length q.ac]
def qpX (q : QX) : QP := ⟨q.from_.data.toList, strip q.wher, strips q.cols, q.names.map (·.data.toList), q.group.map (·.data.toList), q.size, q.slide, q.aggs.map aggP⟩
def SeesIn (S : Nat → Prop) (w : World) (A : Option Addr) (n c size : Nat) (xs : List Value) : Prop := Sees w A n c size xs ∧ ∀ ad, A = some ad → 0 < n → S ad.block
theorem SeesIn.keep {S : Nat → Prop} {w w' : World} {A : Option Addr} {n c size : Nat} {xs : List Value} (h : SeesIn S w A n c size xs) (hb : Alike S w w') : SeesIn S w' A n c size xs := by
 refine ⟨⟨h.1.1, h.1.2.1, h.1.2.2.1, h.1.2.2.2.1, fun hn => ?_⟩, h.2⟩
 obtain ⟨g, o, e, hg, hc⟩ := h.1.2.2.2.2 hn
 have hS := h.2 _ e hn
 exact ⟨g, o, e, Nat.lt_of_lt_of_le hg hb.size, fun k u hu => (World.cell?_of_block (w := w) (w' := w') (a := ⟨g, o + k, none⟩) (hb.block g hS hg)).trans (hc k u hu)⟩
theorem SeesIn.mono {S T : Nat → Prop} {w : World} {A : Option Addr} {n c size : Nat} {xs : List Value} (h : SeesIn S w A n c size xs) (hT : ∀ b, S b → T b) : SeesIn T w A n c size xs := ⟨h.1, fun ad e hn => hT _ (h.2 ad e hn)⟩
theorem SeesIn.nil (S : Nat → Prop) (w : World) (size : Nat) : SeesIn S w none 0 0 size [] := ⟨Sees.nil w size, fun _ e => by cases e⟩
theorem SeesIn.of_own {S : Nat → Prop} {w : World} {B e size : Nat} {v : Value} {n : Nat} {xs : List Value} (h : w.ownsRow B e size v n xs) (hS : ∀ b, B ≤ b → v.ownBlock = some b → S b) : ∃ A c, v = .slice A n c ∧ SeesIn S w A n c size xs := by
 obtain ⟨A, c, rfl, hs⟩ := Sees.of_own h
 refine ⟨A, c, rfl, hs, fun ad e hn => ?_⟩
 subst e
 obtain ⟨g, o, e, hg, -⟩ := hs.2.2.2.2 hn
 injection e with e
 subst e
 have ho : (Value.slice (some ⟨g, o, none⟩) n c).ownBlock = some g := rfl
 exact hS g (h.lt g ho).1 ho
structure SeesQ (S : Nat → Prop) (w : World) (q : QX) : Prop where
 wher : SeesS S w q.wher
 cols : SeesIn S w q.CA q.cols.length q.cc 7 (exsCells q.cols)
 colsAt : ∀ x ∈ q.cols, SeesS S w x
 names : SeesIn S w q.NA q.names.length q.nc 1 (strCells q.names)
 group : SeesIn S w q.GA q.group.length q.gc 1 (strCells q.group)
 aggs : SeesIn S w q.AA q.aggs.length q.ac 9 (aggXs q.aggs)
 aggsAt : ∀ a ∈ q.aggs, SeesS S w a.of
 sizes : q.from_.size ≤ maxLen ∧ (∀ s ∈ q.names, s.size ≤ maxLen) ∧ (∀ s ∈ q.group, s.size ≤ maxLen) ∧ ∀ a ∈ q.aggs, a.what.size ≤ maxLen ∧ a.name.size ≤ maxLen
 nums : fits q.size ∧ fits q.slide
theorem SeesQ.keep {S : Nat → Prop} {w w' : World} {q : QX} (h : SeesQ S w q) (hb : Alike S w w') : SeesQ S w' q :=
 ⟨h.wher.keep hb, h.cols.keep hb, fun x hx => (h.colsAt x hx).keep hb, h.names.keep hb, h.group.keep hb, h.aggs.keep hb, fun a ha => (h.aggsAt a ha).keep hb, h.sizes, h.nums⟩
theorem SeesQ.mono {S T : Nat → Prop} {w : World} {q : QX} (h : SeesQ S w q) (hT : ∀ b, S b → T b) : SeesQ T w q :=
 ⟨h.wher.mono hT, h.cols.mono hT, fun x hx => (h.colsAt x hx).mono hT, h.names.mono hT, h.group.mono hT, h.aggs.mono hT, fun a ha => (h.aggsAt a ha).mono hT, h.sizes, h.nums⟩
def zeroQX : QX := ⟨⟨#[]⟩, zeroE, none, 0, [], none, 0, [], none, 0, [], 0, 0, none, 0, []⟩
theorem zeroQX_sees (S : Nat → Prop) (w : World) : SeesQ S w zeroQX :=
 ⟨seesS_leaf (by decide) (by decide) ⟨show fits 0 by decide, show fits 0 by decide, Nat.zero_le _⟩ (show fits 0 by decide), SeesIn.nil S w 7, (fun x h => by cases h), SeesIn.nil S w 1, SeesIn.nil S w 1, SeesIn.nil S w 9, (fun x h => by cases h), ⟨Nat.zero_le _, (fun s h => by cases h), (fun s h => by cases h), (fun s h => by cases h)⟩, ⟨show fits 0 by decide, show fits 0 by decide⟩⟩
def QSays2 {α : Type} (T : List Tok) (E : Nat) (rb qb : Nat) (A : Option Addr) (c : Nat) (w : World) (V : α → Value → World → Prop) : QR α → Ending → World → Prop
 | .ok (x, j), e, w' => ∃ v, e = .returned v ∧ V x v w' ∧ RdAt T E w' rb A c j ∧ Only (fun k => k = rb ∨ k = qb) w w'
 | .error k, e, w' => e = wrongAt k ∧ Only (fun k => k = rb ∨ k = qb) w w'
theorem RdAt.other2 {T : List Tok} {E : Nat} {w w' : World} {rb : Nat} {A : Option Addr} {c i : Nat} {S : Nat → Prop} (h : RdAt T E w rb A c i) (ho : Only S w w') (h1 : ¬ S rb) (h2 : 0 < T.length → ∀ ad, A = some ad → ¬ S ad.block) : RdAt T E w' rb A c i :=
 ⟨(ho.block rb h.lt h1).trans h.box, ⟨h.toks.1, ho.sees_far h.toks.2 (fun h0 ad e hr => h2 h0 ad e hr)⟩, h.far, h.le⟩
theorem aggSlice : SliceTy Tryz.prog 57 69 (.agg #[.string ⟨#[]⟩, .string ⟨#[]⟩, .string ⟨#[]⟩, .int .i64 0, .int .i64 0, .string ⟨#[]⟩, .slice none 0 0, .int .i64 0, .string ⟨#[]⟩]) 9 128 := SliceTy.of Tryz.underlying57 (by kernel_rfl) rfl (by decide) (by decide)
theorem strCells_snoc' (l : List ByteArray) (s : ByteArray) : strCells (l ++ [s]) = strCells l ++ [.string s] := by simp [strCells]
end Go.Proofs.YtpbbkpfaphjdoabGreatDoor
