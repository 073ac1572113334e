/- sluicesame.Expr, walked, over two expressions that are the same but for where they lie; sluicesame.Texts over one row. sluiceref2.uses, walked: names of columns of an expression that is right, put into a row that rises; sluiceref2.Uses. -/
import Derived.Test.YtpbbkpfaphjdoaaGreatDoorFTreeSame
import Derived.Test.YtpbbkpfaphjdoaaGreatDoorFSameEx
import Derived.Test.YtpbbkpfaphjdoaaGreatDoorFRefBase
import Derived.Deep.QuietTactic
import Derived.BigQuiet
import Derived.StillTailTactics
import Derived.Test.YtpbbkpfaphjdoaaGreatDoorFFoldUses
namespace Go.Proofs.YtpbbkpfaphjdoaaGreatDoor
open Go.ChangeShapes Go.WideShapes Go.ChangeAt Go.RowKit
set_option maxHeartbeats 1000000 in
theorem sameTexts_any (zs : List ByteArray) (A B : Option Addr) (n c d : Nat) (w : World) (hA : Sees w A n c 1 (strCells zs)) (hB : Sees w B n d 1 (strCells zs)) :
  Calls Tryz.prog 25 #[.slice A n c, .slice B n d] w fun e w' => e = .returned (.bool true) ∧ Below w.heap.size w w' := by
 have HA := Lib.hid hA
 have HB := Lib.hid hB
 have h1 := hA.2.1
 have h2 := hA.2.2.1
 have h3 := hB.2.1
 have h4 := hB.2.2.1
 unfold maxLen at h2 h4
 clear hA hB
 go_enter Tryz.func25, Tryz.ntmps25
 go_wp2_with fail
 go_loopw [4, 5] (fun _ i wr => ∃ k : Nat, k ≤ n ∧ i = .int .i64 k ∧ Below w.heap.size w wr) (fun _ i _ => n - (intOf i).toNat)
 case atStart => exact ⟨0, by omega, rfl, Below.refl _ _⟩
 case round =>
  obtain ⟨k, hk, rfl, hb⟩ := hrel
  have HBR := Lib.hid hb
  by_cases hlk : k < n
  ·obtain ⟨g, o, z, rfl, hz, c1⟩ := strs_at (HA.out.keep hb) hlk
   obtain ⟨g2, o2, z2, rfl, hz2, c2⟩ := strs_at (HB.out.keep hb) hlk
   obtain rfl : z2 = z := by have := hz2.symm.trans hz; injection this
   clear hb hz hz2
   go_wp2_with fail
   go_quiet (fail)
   have HBZ := Lib.hid (below_drewN HBR.out nq)
   generalize wr.drewN nq = wz at HBZ ⊢
   go_wp2_with fail
   go_roundw
   case rel => exact ⟨k + 1, by omega, by go_num, HBZ.out⟩
   case measure => simp [intOf]; omega
  ·obtain rfl : n = k := by omega
   clear hb
   go_wp2_with fail
   go_ret
   exact ⟨rfl, HBR.out⟩
end Go.Proofs.YtpbbkpfaphjdoaaGreatDoor
namespace Go.Proofs.YtpbbkpfaphjdoaaGreatDoor
open Go.ChangeShapes Go.WideShapes Go.ChangeAt Go.RowKit
theorem strRow : SliceTy Tryz.prog 27 9 (.string ⟨#[]⟩) 1 16 := SliceTy.of Tryz.underlying27 (by kernel_rfl) rfl (by decide) (by decide)
theorem less_lt : ∀ a b : List UInt8, Op.bytesLess a b = decide (a < b)
 | [], [] => by simp [Op.bytesLess]
 | [], b :: m => by simp [Op.bytesLess]
 | a :: l, [] => by simp [Op.bytesLess]
 | a :: l, b :: m => by
  rw [Op.bytesLess]
  by_cases h1 : a < b
  ·simp [h1, List.cons_lt_cons_iff]
  ·by_cases h2 : b < a
   ·have h3 : ¬ a = b := fun e => by subst e; exact h1 h2
    simp [h1, h3, List.cons_lt_cons_iff]
   ·have h3 : a = b := by
     apply UInt8.toNat_inj.1
     simp only [UInt8.lt_iff_toNat_lt] at *; omega
    subst h3
    simp [less_lt l m]
def FromStart (E : Option Addr) : Prop := E = none ∨ ∃ g, E = some ⟨g, 0, none⟩
theorem own_start {w : World} {B e n : Nat} {v : Value} {xs : List Value} (h : w.ownsRow B e 1 v n xs) : ∃ A c, v = .slice A n c ∧ Sees w A n c 1 xs ∧ FromStart A := by
 obtain ⟨A, c, rfl, hs⟩ := Sees.of_own h
 refine ⟨A, c, rfl, hs, ?_⟩
 rcases h.2 with ⟨e, _⟩ | ⟨g, cap, cur, e, _⟩
 ·injection e with e; exact Or.inl e
 ·injection e with e; exact Or.inr ⟨g, e⟩
theorem sees_upto {w : World} {A : Option Addr} {n c k : Nat} {zs : List ByteArray} (h : Sees w A n c 1 (strCells zs)) (hk : k ≤ n) : Sees w A k c 1 (strCells (zs.take k)) := by
 have hl := strCells_len h
 refine ⟨by simp [strCells]; omega, Nat.le_trans hk h.2.1, h.2.2.1, fun e => ⟨by have := h.2.2.2.1 e; omega, (h.2.2.2.1 e).2⟩, fun h0 => ?_⟩
 obtain ⟨g, o, e, hg, hc⟩ := h.2.2.2.2 (by omega)
 refine ⟨g, o, e, hg, fun j u hu => hc j u ?_⟩
 unfold strCells at hu ⊢
 rw [List.map_take] at hu
 rw [List.getElem?_take] at hu
 split at hu
 ·exact hu
 ·cases hu
theorem sees_from {w : World} {g n c k : Nat} {zs : List ByteArray} (h : Sees w (some ⟨g, 0, none⟩) n c 1 (strCells zs)) (hk : k ≤ n) : Sees w (some ⟨g, k, none⟩) (n - k) (c - k) 1 (strCells (zs.drop k)) := by
 have hl := strCells_len h
 refine ⟨by simp [strCells]; omega, by have := h.2.1; omega, by have := h.2.2.1; omega, (fun e => by cases e), fun h0 => ?_⟩
 obtain ⟨g', o, e, hg, hc⟩ := h.2.2.2.2 (by omega)
 cases e
 refine ⟨g, k, rfl, hg, fun j u hu => ?_⟩
 unfold strCells at hu hc
 rw [List.map_drop, List.getElem?_drop] at hu
 have := hc _ u hu
 rwa [Nat.zero_add] at this
theorem sees_end {w : World} {A : Option Addr} {ad : Addr} {n d c k : Nat} {zs : List ByteArray} (h : Sees w A n d 1 (strCells zs)) (hk : n ≤ k) (hc : c ≤ d) : Sees w (some ad) (n - k) c 1 (strCells (zs.drop k)) := by
 have hl := strCells_len h
 have e : zs.drop k = [] := List.drop_of_length_le (by omega)
 rw [e]
 exact ⟨by simp [strCells]; omega, by omega, by have := h.2.2.1; omega, (fun e => by cases e), fun h0 => by omega⟩
theorem sees_cut {w : World} {g n c k : Nat} {zs : List ByteArray} (h : Sees w (some ⟨g, 0, none⟩) n c 1 (strCells zs)) (hk : k ≤ n) : Sees w (if c = k then some ⟨g, 0, none⟩ else some ⟨g, k, none⟩) (n - k) (c - k) 1 (strCells (zs.drop k)) := by
 split
 ·exact sees_end h (by have := h.2.1; omega) (Nat.sub_le _ _)
 ·exact sees_from h hk
theorem oneStrs (zs : List ByteArray) : ∀ u ∈ strCells zs, u.oneCell' = true := by
 intro u hu
 obtain ⟨z, _, rfl⟩ := List.mem_map.1 hu
 rfl
def RUsesSays (e : Ex) (l : List (List UInt8)) (n : Nat) (w : World) (r : Ending) (w' : World) : Prop :=
 ∃ (E : Option Addr) (m d : Nat) (l' : List (List UInt8)), r = .returned (.slice E m d) ∧ Sees w' E m d 1 (strCells (l'.map mkB)) ∧ FromStart E ∧ l'.Pairwise (· < ·) ∧ (∀ x, x ∈ l' ↔ x ∈ l ∨ mkB x ∈ exNames e) ∧ m ≤ n + (exNames e).length ∧ Below w.heap.size w w'
def RUsesAt (m : Nat) : Prop := ∀ e : Ex, SizeOf.sizeOf e ≤ m → nodesErr e = 0 → ∀ (E : Option Addr) (n d : Nat) (l : List (List UInt8)) (w : World), SeesEx w e → Sees w E n d 1 (strCells (l.map mkB)) → FromStart E → l.Pairwise (· < ·) → n + (exNames e).length ≤ 1000000 →
 Calls Tryz.prog 77 #[exV e, .slice E n d] w (RUsesSays e l n w)
theorem names_col {op name : ByteArray} {v : Val} {A : Option Addr} {c : Nat} {pos : Int} (h : isCol op) : exNames (.mk op name v A c [] pos) = [name] := by
 rw [exNames, if_pos h, exNamess]; rfl
theorem names_other {op name : ByteArray} {v : Val} {A : Option Addr} {c : Nat} {args : List Ex} {pos : Int} (h : ¬ isCol op) : exNames (.mk op name v A c args pos) = exNamess args := by
 rw [exNames, if_neg h]; rfl
theorem put_says {l : List (List UInt8)} {k : Nat} {name : ByteArray} (hr : l.Pairwise (· < ·)) (hhi : ∀ x ∈ l.drop k, name.data.toList < x) (hlo : ∀ x ∈ l.take k, x < name.data.toList) :
  (l.take k ++ name.data.toList :: l.drop k).Pairwise (· < ·) ∧ (∀ x, x ∈ l.take k ++ name.data.toList :: l.drop k ↔ x ∈ l ∨ mkB x ∈ [name]) := by
 obtain ⟨h1, h2⟩ := rise_put hr hlo hhi
 refine ⟨h1, fun x => ?_⟩
 rw [h2, List.mem_singleton]
 constructor
 ·rintro (h | h)
  ·exact Or.inr (by rw [h, mkB_data])
  ·exact Or.inl h
 ·rintro (h | h)
  ·exact Or.inr h
  ·exact Or.inl (by rw [← h, data_mkB])
def NoRound (E : Value) (w0 : World) (e i : Value) (w : World) : Prop := e = E ∧ i = .int .i64 0 ∧ w = w0
set_option maxHeartbeats 4000000 in
set_option maxRecDepth 100000 in
theorem ruses_col_some (op name : ByteArray) (v : Val) (A : Option Addr) (c : Nat) (pos : Int) (hc : isCol op) (g n d : Nat) (l : List (List UInt8)) (w : World) (hl : Sees w (some ⟨g, 0, none⟩) n d 1 (strCells (l.map mkB))) (hr : l.Pairwise (· < ·)) (hn : n + 1 ≤ 1000000) :
  Calls Tryz.prog 77 #[exV (.mk op name v A c [] pos), .slice (some ⟨g, 0, none⟩) n d] w (RUsesSays (.mk op name v A c [] pos) l n w) := by
 obtain ⟨w1, hw1, ho, hb1, -⟩ := box_ex w (.mk op name v A c [] pos)
 obtain ⟨x0, x1, -, -, -, x5, -⟩ := ho.cells
 replace x0 : w1.cell? ⟨w.heap.size, 0, none⟩ = some (.string op) := x0
 replace x1 : w1.cell? ⟨w.heap.size, 1, none⟩ = some (.string name) := x1
 replace x5 : w1.cell? ⟨w.heap.size, 5, none⟩ = some (.slice A 0 c) := x5
 have e1 := str_is (show op.data.toList = [99, 111, 108] from hc)
 have HNM := Lib.hid (names_col (name := name) (v := v) (A := A) (c := c) (pos := pos) hc)
 have hl1 := ho.lt
 have HL := Lib.hid (hl.keep hb1)
 have hcap : n ≤ d := hl.2.1
 have hmax : d ≤ maxLen := hl.2.2.1
 unfold maxLen at hmax
 have hll : l.length = n := by have := strCells_len hl; simpa using this
 have HLL := Lib.hid hll
 have HR := Lib.hid hr
 have HB1 := Lib.hid hb1
 have HW1 : Hid (w.alloc (.cells #[.string op, .string name, .int .i64 v.type, .int .i64 v.n, .string v.s, .slice A 0 c, .int .i64 pos] 26) = w1) := Lib.hid hw1
 have HFIN := Lib.hid (fun (w' : World) (E : Option Addr) (m d' : Nat) (l' : List (List UInt8)) (h1 : Sees w' E m d' 1 (strCells (l'.map mkB))) (h2 : FromStart E) (h3 : l'.Pairwise (· < ·)) (h4 : ∀ x, x ∈ l' ↔ x ∈ l ∨ mkB x ∈ [name]) (h5 : m ≤ n + 1) (h6 : Below w1.heap.size w1 w') =>
  show RUsesSays (.mk op name v A c [] pos) l n w (.returned (.slice E m d')) w' from ⟨E, m, d', l', rfl, h1, h2, h3, by rw [HNM.out]; exact h4, by rw [HNM.out]; exact h5, below_step hb1 h6⟩)
 show Calls Tryz.prog 77 #[.agg #[.string op, .string name, .int .i64 v.type, .int .i64 v.n, .string v.s, .slice A 0 c, .int .i64 pos], .slice (some ⟨g, 0, none⟩) n d] w _
 clear hw1 ho hb1 hc hl hr hll
 go_enter Tryz.func77, Tryz.ntmps77
 go_wp2_with (first | rw [HW1.out])
 go_loopw [5] (fun i wr => ∃ k q : Nat, k ≤ n ∧ i = .int .i64 k ∧ wr = w1.drewN q ∧ (∀ x ∈ l.drop k, name.data.toList < x)) (fun i _ => (intOf i).toNat)
 case atStart => exact ⟨n, 0, Nat.le_refl _, rfl, rfl, fun x hx => by rw [List.drop_of_length_le (by rw [HLL.out]; exact Nat.le_refl _)] at hx; cases hx⟩
 case round =>
  obtain ⟨k, q, hk, rfl, rfl, hhi⟩ := hrel
  have HHI := Lib.hid hhi
  clear hhi
  rcases Nat.eq_zero_or_pos k with hk0 | hk0
  ·have g1 : decide (0 < k) = false := decide_eq_false (by omega)
   have g2 : ((k : Int) == 0) = true := by simp [hk0]
   have HLO := Lib.hid (show ∀ x ∈ l.take k, x < name.data.toList from fun x hx => by rw [hk0] at hx; cases hx)
   clear hk0
   go_wp2_with fail
   go_quiet (fail)
   have hby : Below w1.heap.size w1 ((w1.drewN q).drewN nq) := below_drewN (below_drewN (Below.refl _ _) q) nq
   generalize (w1.drewN q).drewN nq = wy at hby ⊢
   go_wp2_with fail
   go_quiet (fail)
   have hbz := below_drewN hby nq
   generalize wy.drewN nq = wz at hbz ⊢
   have HBZ := Lib.hid (show Below w1.heap.size w1 wz from hbz)
   have HSEE := Lib.hid (HL.out.keep hbz)
   have HTK := Lib.hid (sees_upto HSEE.out hk)
   have HDR := Lib.hid (sees_from HSEE.out hk)
   have y1 := (hbz.cell (p := ⟨w.heap.size, 1, none⟩) hl1).trans x1
   clear hbz
   go_wp2_with (first
    | (at_builtin; refine wpList_append_src strRow rfl _ _ rfl rfl rfl (World.ownsRow_nil wz w1.heap.size _ _) HTK.out HBZ.out (Nat.le_refl _) (oneStrs _) (by omega) ?_; intro v1 w2 hown2 hb2 _; rw [Nat.zero_add, List.nil_append] at hown2; have HO2 := Lib.hid hown2; have HB2 := Lib.hid hb2; have z1 := (hb2.cell (p := ⟨w.heap.size, 1, none⟩) hl1).trans x1; clear hown2 hb2)
    | (at_builtin; refine wpList_append_one strRow rfl _ _ rfl rfl rfl HO2.out HB2.out (Nat.le_refl _) rfl (by intro u hu; simp at hu; subst hu; rfl) (by omega) ?_; intro v2 w3 hown3 hb3 _; have HO3 := Lib.hid hown3; have HB3 := Lib.hid hb3; clear hown3 hb3)
    | (have hdc := sees_cut (HL.out.keep HB3.out) hk; generalize (if d = k then (some ⟨g, 0, none⟩ : Option Addr) else some ⟨g, k, none⟩) = A5 at hdc ⊢; at_builtin; refine wpList_append_src strRow rfl _ _ rfl rfl rfl HO3.out hdc HB3.out (Nat.le_refl _) (oneStrs _) (by omega) ?_; intro v3 w4 hown4 hb4 _; obtain ⟨A4, c4, rfl, hs4, hf4⟩ := own_start hown4; have HS4 := Lib.hid hs4; have HF4 := Lib.hid hf4; have HB4 := Lib.hid hb4; have q5 := (hb4.cell (p := ⟨w.heap.size, 5, none⟩) hl1).trans x5; clear hown4 hb4 hs4 hf4))
   have hn4 : k + 1 + (n - k) = n + 1 := by omega
   rw [hn4] at HS4 ⊢
   go_loopw [1, 7] (fun e i wr => NoRound (.slice A4 (n + 1) c4) w4 e i wr) (fun _ _ _ => 0)
   case atStart => exact ⟨rfl, rfl, rfl⟩
   case round =>
    obtain ⟨rfl, rfl, rfl⟩ := hrel
    go_wp2_with fail
    go_ret
    have HP := put_says (name := name) HR.out HHI.out HLO.out
    refine HFIN.out _ _ _ _ (l.take k ++ name.data.toList :: l.drop k) ?_ HF4.out HP.1 HP.2 (Nat.le_refl _) HB4.out
    have e : strCells ((l.take k ++ name.data.toList :: l.drop k).map mkB) = strCells ((l.map mkB).take k) ++ (#[Value.string name] : Array Value).toList ++ strCells ((l.map mkB).drop k) := by
     simp [strCells, mkB_data]
    rw [e]
    exact HS4.out
  ·obtain ⟨j, hj⟩ : ∃ j, k = j + 1 := ⟨k - 1, by omega⟩
   have hjn : j < n := by omega
   have hgl : g < w1.heap.size := by
    obtain ⟨g', o, e, h, -⟩ := HL.out.2.2.2.2 (by omega)
    injection e with e; injection e with e; rw [e]; exact h
   obtain ⟨g', o, z, hg', hz, c1⟩ := strs_at HL.out hjn
   injection hg' with hg'
   injection hg' with hg' ho'
   subst hg' ho'
   rw [Nat.zero_add] at c1
   have g1 : decide (0 < k) = true := decide_eq_true hk0
   have g2 : ((k : Int) == 0) = false := by simp; omega
   have gw : IntKind.i64.wrap ((k : Int) - 1) = (j : Int) := by rw [show (k : Int) - 1 = j by omega]; exact IntWalk.i64_in (j : Int) (by omega)
   have gj : (j : Int) < (n : Int) := by omega
   have HZ := Lib.hid (show l[j]? = some z.data.toList ∧ z = mkB z.data.toList from by
    rw [List.getElem?_map] at hz
    cases hx : l[j]? with
    | none => rw [hx] at hz; cases hz
    | some x => rw [hx] at hz; injection hz with hz; exact ⟨by rw [← hz, data_mkB], by rw [mkB_data]⟩)
   have HJ := Lib.hid hj
   clear hz hj hk0
   by_cases hlt : name.data.toList < z.data.toList
   ·have gl : Op.bytesLess z.toList name.toList = false := by rw [Lib.toList_data, Lib.toList_data, less_lt]; exact decide_eq_false (List.lt_asymm hlt)
    have ge : (z.toList == name.toList) = false := by rw [Lib.toList_data, Lib.toList_data]; exact beq_eq_false_iff_ne.2 (fun e => List.lt_irrefl _ (e ▸ hlt))
    have HHJ := Lib.hid (show ∀ x ∈ l.drop j, name.data.toList < x from fun x hx => by
     rw [List.drop_eq_getElem?_toList_append, HZ.out.1] at hx
     rcases List.mem_append.1 hx with hx | hx
     ·simp at hx; rw [hx]; exact hlt
     ·exact HHI.out x (by rw [HJ.out]; exact hx))
    clear hlt
    go_wp2_with fail
    go_quiet (fail)
    go_wp2_with fail
    go_roundw
    case rel => exact ⟨j, q + nq, by omega, rfl, by simp, HHJ.out⟩
    case measure => have := HJ.out; simp [intOf]; omega
   by_cases heq : z.data.toList = name.data.toList
   ·have gl : Op.bytesLess z.toList name.toList = false := by rw [Lib.toList_data, Lib.toList_data, less_lt]; exact decide_eq_false (by rw [heq]; exact List.lt_irrefl _)
    have ge : (z.toList == name.toList) = true := by rw [Lib.toList_data, Lib.toList_data]; exact beq_iff_eq.2 heq
    have HIN := Lib.hid (show mkB name.data.toList = name ∧ name.data.toList ∈ l from ⟨mkB_data _, by rw [← heq]; exact List.mem_of_getElem? HZ.out.1⟩)
    clear hlt heq
    go_wp2_with fail
    go_quiet (fail)
    have hby : Below w1.heap.size w1 ((w1.drewN q).drewN nq) := below_drewN (below_drewN (Below.refl _ _) q) nq
    have c2 := (hby.cell (p := ⟨g, j, none⟩) hgl).trans c1
    have y1 := (hby.cell (p := ⟨w.heap.size, 1, none⟩) hl1).trans x1
    generalize (w1.drewN q).drewN nq = wy at hby c2 y1 ⊢
    have ge' : (z.toList != name.toList) = false := by show (!(z.toList == name.toList)) = false; rw [ge]; rfl
    go_wp2_with fail
    go_quiet (fail)
    have hbz := below_drewN hby nq
    have q5 := (hbz.cell (p := ⟨w.heap.size, 5, none⟩) hl1).trans x5
    have HSZ := Lib.hid (HL.out.keep hbz)
    have HBZ := Lib.hid hbz
    generalize wy.drewN nq = wz at q5 HSZ HBZ ⊢
    clear hby hbz c1 c2 y1
    go_wp2_with fail
    go_loopw [1, 7] (fun e i wr => NoRound (.slice (some ⟨g, 0, none⟩) n d) wz e i wr) (fun _ _ _ => 0)
    case atStart => exact ⟨rfl, rfl, rfl⟩
    case round =>
     obtain ⟨rfl, rfl, rfl⟩ := hrel
     go_wp2_with fail
     go_ret
     exact HFIN.out _ _ _ _ l HSZ.out (Or.inr ⟨_, rfl⟩) HR.out (fun x => ⟨Or.inl, fun h => h.elim id (fun h => by rw [List.mem_singleton] at h; have := congrArg (fun b => b.data.toList) h; simp only [data_mkB] at this; rw [this]; exact HIN.out.2)⟩) (Nat.le_succ _) HBZ.out
   ·have hgt : z.data.toList < name.data.toList := by
     rcases List.le_total z.data.toList name.data.toList with h | h
     ·exact Std.lt_of_le_of_ne h heq
     ·exact absurd (Std.lt_of_le_of_ne h (fun e => heq e.symm)) hlt
    have gl : Op.bytesLess z.toList name.toList = true := by rw [Lib.toList_data, Lib.toList_data, less_lt]; exact decide_eq_true hgt
    have ge : (z.toList == name.toList) = false := by rw [Lib.toList_data, Lib.toList_data]; exact beq_eq_false_iff_ne.2 heq
    have HLO := Lib.hid (show ∀ x ∈ l.take k, x < name.data.toList from fun x hx => by
     rw [HJ.out] at hx
     exact rise_low HR.out HZ.out.1 hgt x hx)
    clear hlt heq hgt
    go_wp2_with fail
    go_quiet (fail)
    have hby : Below w1.heap.size w1 ((w1.drewN q).drewN nq) := below_drewN (below_drewN (Below.refl _ _) q) nq
    have c2 := (hby.cell (p := ⟨g, j, none⟩) hgl).trans c1
    have y1 := (hby.cell (p := ⟨w.heap.size, 1, none⟩) hl1).trans x1
    generalize (w1.drewN q).drewN nq = wy at hby c2 y1 ⊢
    go_wp2_with fail
    go_quiet (fail)
    have hbz := below_drewN hby nq
    generalize wy.drewN nq = wz at hbz ⊢
    clear hby c1 c2 y1
    have HBZ := Lib.hid (show Below w1.heap.size w1 wz from hbz)
    have HSEE := Lib.hid (HL.out.keep hbz)
    have HTK := Lib.hid (sees_upto HSEE.out hk)
    have HDR := Lib.hid (sees_from HSEE.out hk)
    have y1 := (hbz.cell (p := ⟨w.heap.size, 1, none⟩) hl1).trans x1
    clear hbz
    go_wp2_with (first
     | (at_builtin; refine wpList_append_src strRow rfl _ _ rfl rfl rfl (World.ownsRow_nil wz w1.heap.size _ _) HTK.out HBZ.out (Nat.le_refl _) (oneStrs _) (by omega) ?_; intro v1 w2 hown2 hb2 _; rw [Nat.zero_add, List.nil_append] at hown2; have HO2 := Lib.hid hown2; have HB2 := Lib.hid hb2; have z1 := (hb2.cell (p := ⟨w.heap.size, 1, none⟩) hl1).trans x1; clear hown2 hb2)
     | (at_builtin; refine wpList_append_one strRow rfl _ _ rfl rfl rfl HO2.out HB2.out (Nat.le_refl _) rfl (by intro u hu; simp at hu; subst hu; rfl) (by omega) ?_; intro v2 w3 hown3 hb3 _; have HO3 := Lib.hid hown3; have HB3 := Lib.hid hb3; clear hown3 hb3)
     | (have hdc := sees_cut (HL.out.keep HB3.out) hk; generalize (if d = k then (some ⟨g, 0, none⟩ : Option Addr) else some ⟨g, k, none⟩) = A5 at hdc ⊢; at_builtin; refine wpList_append_src strRow rfl _ _ rfl rfl rfl HO3.out hdc HB3.out (Nat.le_refl _) (oneStrs _) (by omega) ?_; intro v3 w4 hown4 hb4 _; obtain ⟨A4, c4, rfl, hs4, hf4⟩ := own_start hown4; have HS4 := Lib.hid hs4; have HF4 := Lib.hid hf4; have HB4 := Lib.hid hb4; have q5 := (hb4.cell (p := ⟨w.heap.size, 5, none⟩) hl1).trans x5; clear hown4 hb4 hs4 hf4))
    have hn4 : k + 1 + (n - k) = n + 1 := by omega
    rw [hn4] at HS4 ⊢
    go_loopw [1, 7] (fun e i wr => NoRound (.slice A4 (n + 1) c4) w4 e i wr) (fun _ _ _ => 0)
    case atStart => exact ⟨rfl, rfl, rfl⟩
    case round =>
     obtain ⟨rfl, rfl, rfl⟩ := hrel
     go_wp2_with fail
     go_ret
     have HP := put_says (name := name) HR.out HHI.out HLO.out
     refine HFIN.out _ _ _ _ (l.take k ++ name.data.toList :: l.drop k) ?_ HF4.out HP.1 HP.2 (Nat.le_refl _) HB4.out
     have e : strCells ((l.take k ++ name.data.toList :: l.drop k).map mkB) = strCells ((l.map mkB).take k) ++ (#[Value.string name] : Array Value).toList ++ strCells ((l.map mkB).drop k) := by
      simp [strCells, mkB_data]
     rw [e]
     exact HS4.out
set_option maxHeartbeats 4000000 in
set_option maxRecDepth 100000 in
theorem ruses_col_none (op name : ByteArray) (v : Val) (A : Option Addr) (c : Nat) (pos : Int) (hc : isCol op) (w : World) :
  Calls Tryz.prog 77 #[exV (.mk op name v A c [] pos), .slice none 0 0] w (RUsesSays (.mk op name v A c [] pos) [] 0 w) := by
 obtain ⟨w1, hw1, ho, hb1, -⟩ := box_ex w (.mk op name v A c [] pos)
 obtain ⟨x0, x1, -, -, -, x5, -⟩ := ho.cells
 replace x0 : w1.cell? ⟨w.heap.size, 0, none⟩ = some (.string op) := x0
 replace x1 : w1.cell? ⟨w.heap.size, 1, none⟩ = some (.string name) := x1
 replace x5 : w1.cell? ⟨w.heap.size, 5, none⟩ = some (.slice A 0 c) := x5
 have e1 := str_is (show op.data.toList = [99, 111, 108] from hc)
 have HNM := Lib.hid (names_col (name := name) (v := v) (A := A) (c := c) (pos := pos) hc)
 have hl1 := ho.lt
 have HB1 := Lib.hid hb1
 have HW1 : Hid (w.alloc (.cells #[.string op, .string name, .int .i64 v.type, .int .i64 v.n, .string v.s, .slice A 0 c, .int .i64 pos] 26) = w1) := Lib.hid hw1
 have HFIN := Lib.hid (fun (w' : World) (E : Option Addr) (d' : Nat) (h1 : Sees w' E 1 d' 1 (strCells [name])) (h2 : FromStart E) (h6 : Below w1.heap.size w1 w') =>
  show RUsesSays (.mk op name v A c [] pos) [] 0 w (.returned (.slice E 1 d')) w' from ⟨E, 1, d', [name.data.toList], rfl, by simpa [mkB_data] using h1, h2, List.pairwise_singleton _ _, by
   rw [HNM.out]
   intro x
   have h := (put_says (l := []) (k := 0) (name := name) List.Pairwise.nil (fun x hx => by cases hx) (fun x hx => by cases hx)).2 x
   simpa using h, by rw [HNM.out]; exact Nat.le_refl _, below_step hb1 h6⟩)
 show Calls Tryz.prog 77 #[.agg #[.string op, .string name, .int .i64 v.type, .int .i64 v.n, .string v.s, .slice A 0 c, .int .i64 pos], .slice none 0 0] w _
 clear hw1 ho hb1 hc
 go_enter Tryz.func77, Tryz.ntmps77
 go_wp2_with (first | rw [HW1.out])
 go_loopw [5] (fun i wr => ∃ q : Nat, i = .int .i64 0 ∧ wr = w1.drewN q) (fun _ _ => 0)
 case atStart => exact ⟨0, rfl, rfl⟩
 case round =>
  obtain ⟨q, rfl, rfl⟩ := hrel
  go_wp2_with fail
  go_quiet (fail)
  have hby : Below w1.heap.size w1 ((w1.drewN q).drewN nq) := below_drewN (below_drewN (Below.refl _ _) q) nq
  generalize (w1.drewN q).drewN nq = wy at hby ⊢
  go_wp2_with fail
  go_quiet (fail)
  have hbz := below_drewN hby nq
  generalize wy.drewN nq = wz at hbz ⊢
  have HBZ := Lib.hid hbz
  have y1 := (hbz.cell (p := ⟨w.heap.size, 1, none⟩) hl1).trans x1
  clear hbz hby
  go_wp2_with (first
   | (at_builtin; refine wpList_append_src strRow rfl _ _ rfl rfl rfl (World.ownsRow_nil wz w1.heap.size _ _) (Sees.nil wz 1) HBZ.out (Nat.le_refl _) (fun u hu => by cases hu) (by omega) ?_; intro v1 w2 hown2 hb2 _; rw [Nat.zero_add, List.nil_append] at hown2; have HO2 := Lib.hid hown2; have HB2 := Lib.hid hb2; have z1 := (hb2.cell (p := ⟨w.heap.size, 1, none⟩) hl1).trans x1; clear hown2 hb2)
   | (at_builtin; refine wpList_append_one strRow rfl _ _ rfl rfl rfl HO2.out HB2.out (Nat.le_refl _) rfl (by intro u hu; simp at hu; subst hu; rfl) (by omega) ?_; intro v2 w3 hown3 hb3 _; have HO3 := Lib.hid hown3; have HB3 := Lib.hid hb3; clear hown3 hb3)
   | (at_builtin; refine wpList_append_src strRow rfl _ _ rfl rfl rfl HO3.out (Sees.nil w3 1) HB3.out (Nat.le_refl _) (fun u hu => by cases hu) (by omega) ?_; intro v3 w4 hown4 hb4 _; obtain ⟨A4, c4, rfl, hs4, hf4⟩ := own_start hown4; have HS4 := Lib.hid hs4; have HF4 := Lib.hid hf4; have HB4 := Lib.hid hb4; have q5 := (hb4.cell (p := ⟨w.heap.size, 5, none⟩) hl1).trans x5; clear hown4 hb4 hs4 hf4))
  go_loopw [1, 7] (fun e i wr => NoRound (.slice A4 1 c4) w4 e i wr) (fun _ _ _ => 0)
  case atStart => exact ⟨rfl, rfl, rfl⟩
  case round =>
   obtain ⟨rfl, rfl, rfl⟩ := hrel
   go_wp2_with fail
   go_ret
   exact HFIN.out _ _ _ (by have h := HS4.out; simpa [strCells] using h) HF4.out HB4.out
theorem names_upto {l : List Ex} {k : Nat} {a : Ex} (h : l[k]? = some a) : (exNamess (l.take k)).length + (exNames a).length ≤ (exNamess l).length := by
 have := exNamess_take_le l (k + 1)
 rw [exNamess_next h, List.length_append] at this
 omega
set_option maxHeartbeats 4000000 in
set_option maxRecDepth 100000 in
theorem ruses_op (m : Nat) (ih : RUsesAt m) (op name : ByteArray) (v : Val) (A : Option Addr) (c : Nat) (args : List Ex) (pos : Int) (hm : SizeOf.sizeOf (Ex.mk op name v A c args pos) ≤ m + 1) (hne : nodesErr (.mk op name v A c args pos) = 0) (hc : ¬ isCol op)
  (E : Option Addr) (n d : Nat) (l : List (List UInt8)) (w : World) (he : SeesEx w (.mk op name v A c args pos)) (hl : Sees w E n d 1 (strCells (l.map mkB))) (hf : FromStart E) (hr : l.Pairwise (· < ·)) (hn : n + (exNames (.mk op name v A c args pos)).length ≤ 1000000) :
  Calls Tryz.prog 77 #[exV (.mk op name v A c args pos), .slice E n d] w (RUsesSays (.mk op name v A c args pos) l n w) := by
 have IH := Lib.hid ih
 have HM := Lib.hid (fun a (ha : a ∈ args) => show SizeOf.sizeOf a ≤ m by have := ex_lt (e := .mk op name v A c args pos) ha; omega)
 have HNE := Lib.hid (nodesErrs_all (nodesErr_parts hne).2)
 obtain ⟨w1, hw1, ho, hb1, -⟩ := box_ex w (.mk op name v A c args pos)
 obtain ⟨x0, -, -, -, -, x5, -⟩ := ho.cells
 replace x0 : w1.cell? ⟨w.heap.size, 0, none⟩ = some (.string op) := x0
 replace x5 : w1.cell? ⟨w.heap.size, 5, none⟩ = some (.slice A args.length c) := x5
 have e1 := str_ne (show op.data.toList ≠ [99, 111, 108] from hc)
 have HNM := Lib.hid (names_other (name := name) (v := v) (A := A) (c := c) (args := args) (pos := pos) hc)
 have hl1 := ho.lt
 have HE := Lib.hid (he.keep hb1)
 have HL := Lib.hid (hl.keep hb1)
 have HF := Lib.hid hf
 have HR := Lib.hid hr
 have HB1 := Lib.hid hb1
 have hcap : args.length ≤ c := he.parts.1.2.1
 have hmax : c ≤ maxLen := he.parts.1.2.2.1
 unfold maxLen at hmax
 have HNN := Lib.hid (show n + (exNamess args).length ≤ 1000000 by rw [← HNM.out]; exact hn)
 have HX5 := Lib.hid x5
 obtain ⟨z, hz⟩ : ∃ z, args.length = z := ⟨_, rfl⟩
 have HLn := Lib.hid hz
 have HW1 : Hid (w.alloc (.cells #[.string op, .string name, .int .i64 v.type, .int .i64 v.n, .string v.s, .slice A args.length c, .int .i64 pos] 26) = w1) := Lib.hid hw1
 show Calls Tryz.prog 77 #[.agg #[.string op, .string name, .int .i64 v.type, .int .i64 v.n, .string v.s, .slice A args.length c, .int .i64 pos], .slice E n d] w _
 rw [hz] at HX5 x5 hcap HW1 ⊢
 clear ih hm hne hw1 ho hb1 hc he hl hf hr hn hz x5
 go_enter Tryz.func77, Tryz.ntmps77
 go_wp2_with (first | rw [HW1.out])
 go_loopw [1, 7] (fun e i wr => ∃ (k : Nat) (E' : Option Addr) (n' d' : Nat) (l' : List (List UInt8)), k ≤ z ∧ i = .int .i64 k ∧ e = .slice E' n' d' ∧ Sees wr E' n' d' 1 (strCells (l'.map mkB)) ∧ FromStart E' ∧ l'.Pairwise (· < ·) ∧ (∀ x, x ∈ l' ↔ x ∈ l ∨ mkB x ∈ exNamess (args.take k)) ∧ n' ≤ n + (exNamess (args.take k)).length ∧ Below w1.heap.size w1 wr) (fun _ i _ => z - (intOf i).toNat)
 case atStart => exact ⟨0, E, n, d, l, by omega, rfl, rfl, HL.out, HF.out, HR.out, fun x => by rw [List.take_zero, exNamess]; simp, by omega, Below.refl _ _⟩
 case round =>
  obtain ⟨k, E', n', d', l', hk, rfl, rfl, hs, hfs, hrs, hms, hns, hb⟩ := hrel
  have HS := Lib.hid hs
  have HFS := Lib.hid hfs
  have HRS := Lib.hid hrs
  have HMS := Lib.hid hms
  have HNS := Lib.hid hns
  have HB := Lib.hid hb
  have x5 := (hb.cell (p := ⟨w.heap.size, 5, none⟩) hl1).trans HX5.out
  by_cases hlk : k < z
  ·obtain ⟨g, o, x, (rfl : A = _), hg, hx, hsx, c0, c1, c2, c3, c4, c5, c6⟩ := (HE.out.keep hb).at_ (k := k) (by show k < args.length; rw [HLn.out]; exact hlk)
   have HX := Lib.hid (show args[k]? = some x from hx)
   have hu := names_upto HX.out
   have hnn := HNN.out
   have T := Lib.hid (IH.out x (HM.out x (List.mem_of_getElem? hx)) (HNE.out x (List.mem_of_getElem? hx)) E' n' d' l' wr hsx HS.out HFS.out HRS.out (by omega))
   unfold RUsesSays exV at T
   clear hs hfs hrs hms hns hb hx hsx hu hnn
   go_wp2_with fail
   refine (T.out).mono ?_
   rintro e' w4 ⟨E4, n4, d4, l4, rfl, hs4, hf4, hr4, hm4, hn4, hb4⟩
   have HS4 := Lib.hid hs4
   have HF4 := Lib.hid hf4
   have HR4 := Lib.hid hr4
   have HM4 := Lib.hid hm4
   have HN4 := Lib.hid hn4
   have HB4 := Lib.hid (HB.out.trans (hb4.mono HB.out.size))
   clear hs4 hf4 hr4 hm4 hn4 hb4 c0 c1 c2 c3 c4 c5 c6 x5 T
   go_wp2_with fail
   go_roundw
   case rel =>
    have hnx := exNamess_next HX.out
    refine ⟨k + 1, E4, n4, d4, l4, by omega, by go_num, rfl, HS4.out, HF4.out, HR4.out, fun y => ?_, ?_, HB4.out⟩
    ·rw [HM4.out, HMS.out, hnx, List.mem_append, or_assoc]
    ·have h1 := HNS.out; have h2 := HN4.out; rw [hnx, List.length_append]; omega
   case measure => simp [intOf]; omega
  ·obtain rfl : z = k := by omega
   have HTK := Lib.hid (show args.take z = args from List.take_of_length_le (by rw [HLn.out]; exact Nat.le_refl _))
   clear hs hfs hrs hms hns hb
   go_wp2_with fail
   go_ret
   refine ⟨E', n', d', l', rfl, HS.out, HFS.out, HRS.out, fun y => ?_, ?_, below_step HB1.out HB.out⟩
   ·have := HMS.out y; rw [HTK.out] at this; rw [HNM.out]; exact this
   ·have := HNS.out; rw [HTK.out] at this; rw [HNM.out]; exact this
theorem ruses_any : ∀ m : Nat, RUsesAt m
 | 0 => fun e hm => by cases e; simp at hm
 | m + 1 => fun e hm hne E n d l w he hl hf hr hn => by
  obtain ⟨op, name, v, A, c, args, pos⟩ := e
  by_cases hc : isCol op
  ·have h0 : args = [] := by
    have := (nodeErr_len (nodesErr_parts hne).1).1
    rw [show arityOf op = 0 by rw [bytes_of hc]; decide] at this
    exact List.eq_nil_of_length_eq_zero (by omega)
   subst h0
   rw [names_col hc] at hn
   rcases hf with rfl | ⟨g, rfl⟩
   ·obtain ⟨rfl, rfl⟩ := hl.2.2.2.1 rfl
    have hl0 : l = [] := by have := strCells_len hl; exact List.eq_nil_of_length_eq_zero (by simpa using this)
    subst hl0
    exact ruses_col_none op name v A c pos hc w
   ·exact ruses_col_some op name v A c pos hc g n d l w hl hr hn
  ·exact ruses_op m (ruses_any m) op name v A c args pos hm hne hc E n d l w he hl hf hr hn
def RUsesOk (e : Ex) (w : World) (r : Ending) (w' : World) : Prop := ∃ (E : Option Addr) (m d : Nat) (l : List (List UInt8)), r = .returned (.slice E m d) ∧ Sees w' E m d 1 (strCells (l.map mkB)) ∧ l.Pairwise (· < ·) ∧ (∀ x, x ∈ l ↔ mkB x ∈ exNames e) ∧ Below w.heap.size w w'
set_option maxHeartbeats 4000000 in
set_option maxRecDepth 100000 in
theorem rUses_any (e : Ex) (w : World) (he : SeesEx w e) (hk : checkErr e = 0) : Calls Tryz.prog 23 #[exV e] w (RUsesOk e w) := by
 obtain ⟨h1, h2, h3⟩ := checkErr_ok hk
 have hle : (exNames e).length ≤ 200 := by
  have := (size_ok 30 (Nat.le_refl _) _ h2 h3).1
  have := names_le e
  omega
 obtain ⟨w1, hw1, ho, hb1, -⟩ := box_ex w e
 obtain ⟨x0, x1, x2, x3, x4, x5, x6⟩ := ho.cells
 have T := Lib.hid (ruses_any _ e (Nat.le_refl _) h3 none 0 0 [] w1 (he.keep hb1) (Sees.nil _ _) (Or.inl rfl) List.Pairwise.nil (by omega))
 unfold RUsesSays exV at T
 have HW1 := Lib.hid hw1
 have HB1 := Lib.hid hb1
 unfold exV
 clear h1 h2 h3 hle hw1 ho hb1 he hk
 go_enter Tryz.func23, Tryz.ntmps23
 go_wp2_with (first | rw [HW1.out])
 refine (T.out).mono ?_
 rintro e' w4 ⟨E4, n4, d4, l4, rfl, hs4, hf4, hr4, hm4, hn4, hb4⟩
 have HM := Lib.hid (show RUsesOk e w (.returned (.slice E4 n4 d4)) w4 from ⟨E4, n4, d4, l4, rfl, hs4, hr4, fun x => by rw [hm4]; simp, below_step HB1.out hb4⟩)
 clear hs4 hf4 hr4 hm4 hn4 hb4
 go_wp2_with fail
 go_ret
 exact HM.out
end Go.Proofs.YtpbbkpfaphjdoaaGreatDoor
