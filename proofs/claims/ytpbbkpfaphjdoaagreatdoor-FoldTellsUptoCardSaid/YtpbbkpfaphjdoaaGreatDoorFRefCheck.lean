/- The document's answer, walked: signs, Arity, Size, deep of an expression. The document's answer, walked: nodes, Small and Check of an expression. -/
import Derived.Test.YtpbbkpfaphjdoaaGreatDoorFRefBase
import Derived.Test.YtpbbkpfaphjdoaaGreatDoorFCheck
namespace Go.Proofs.YtpbbkpfaphjdoaaGreatDoor
open Go.ChangeShapes Go.WideShapes Go.ChangeAt Go.RowKit
theorem rsigns_any (k : Nat) (hk : k < 5) (w : World) :
  Calls Tryz.prog 129 #[.int .i64 k] w fun e w' => (∃ A c, e = .returned (.slice A (lvlB k).length c) ∧ Sees w' A (lvlB k).length c 1 (strCells (lvlB k))) ∧ Below w.heap.size w w' := by
 obtain rfl | rfl | rfl | rfl | rfl : k = 0 ∨ k = 1 ∨ k = 2 ∨ k = 3 ∨ k = 4 := by omega
 ·go_enter Tryz.func129, Tryz.ntmps129
  go_wp2_with fail
  go_ret
  exact ⟨⟨some ⟨w.heap.size, 0, none⟩, 1, rfl, seesNew w (strCells (lvlB 0)) _ 1 1 rfl (by decide)⟩, belowNew _ _⟩
 ·go_enter Tryz.func129, Tryz.ntmps129
  go_wp2_with fail
  go_ret
  exact ⟨⟨some ⟨w.heap.size, 0, none⟩, 1, rfl, seesNew w (strCells (lvlB 1)) _ 1 1 rfl (by decide)⟩, belowNew _ _⟩
 ·go_enter Tryz.func129, Tryz.ntmps129
  go_wp2_with fail
  go_ret
  exact ⟨⟨some ⟨w.heap.size, 0, none⟩, 6, rfl, seesNew w (strCells (lvlB 2)) _ 6 1 rfl (by decide)⟩, belowNew _ _⟩
 ·go_enter Tryz.func129, Tryz.ntmps129
  go_wp2_with fail
  go_ret
  exact ⟨⟨some ⟨w.heap.size, 0, none⟩, 2, rfl, seesNew w (strCells (lvlB 3)) _ 2 1 rfl (by decide)⟩, belowNew _ _⟩
 ·go_enter Tryz.func129, Tryz.ntmps129
  go_wp2_with fail
  go_ret
  exact ⟨⟨some ⟨w.heap.size, 0, none⟩, 3, rfl, seesNew w (strCells (lvlB 4)) _ 3 1 rfl (by decide)⟩, belowNew _ _⟩
theorem rarity_col (w : World) : Calls Tryz.prog 143 #[.string ⟨#[99, 111, 108]⟩] w fun e w' => e = .returned (.int .i64 0) ∧ Below w.heap.size w w' := by
 go_enter Tryz.func143, Tryz.ntmps143
 go_wp2_with fail
 go_ret
 exact ⟨rfl, Below.refl _ _⟩
theorem rarity_val (w : World) : Calls Tryz.prog 143 #[.string ⟨#[118, 97, 108]⟩] w fun e w' => e = .returned (.int .i64 0) ∧ Below w.heap.size w w' := by
 go_enter Tryz.func143, Tryz.ntmps143
 go_wp2_with fail
 go_ret
 exact ⟨rfl, Below.refl _ _⟩
theorem rarity_not (w : World) : Calls Tryz.prog 143 #[.string ⟨#[110, 111, 116]⟩] w fun e w' => e = .returned (.int .i64 1) ∧ Below w.heap.size w w' := by
 go_enter Tryz.func143, Tryz.ntmps143
 go_wp2_with fail
 go_ret
 exact ⟨rfl, Below.refl _ _⟩
theorem rarity_neg (w : World) : Calls Tryz.prog 143 #[.string ⟨#[110, 101, 103]⟩] w fun e w' => e = .returned (.int .i64 1) ∧ Below w.heap.size w w' := by
 go_enter Tryz.func143, Tryz.ntmps143
 go_wp2_with fail
 go_ret
 exact ⟨rfl, Below.refl _ _⟩
theorem rarity_len (w : World) : Calls Tryz.prog 143 #[.string ⟨#[108, 101, 110]⟩] w fun e w' => e = .returned (.int .i64 1) ∧ Below w.heap.size w w' := by
 go_enter Tryz.func143, Tryz.ntmps143
 go_wp2_with fail
 go_ret
 exact ⟨rfl, Below.refl _ _⟩
theorem rarity_if (w : World) : Calls Tryz.prog 143 #[.string ⟨#[105, 102]⟩] w fun e w' => e = .returned (.int .i64 3) ∧ Below w.heap.size w w' := by
 go_enter Tryz.func143, Tryz.ntmps143
 go_wp2_with fail
 go_ret
 exact ⟨rfl, Below.refl _ _⟩
set_option maxHeartbeats 2000000 in
set_option maxRecDepth 100000 in
theorem rarity_sign (s : ByteArray) (w : World)
  (h1 : s.data.toList ≠ [99, 111, 108]) (h2 : s.data.toList ≠ [118, 97, 108]) (h3 : s.data.toList ≠ [110, 111, 116]) (h4 : s.data.toList ≠ [110, 101, 103]) (h5 : s.data.toList ≠ [108, 101, 110]) (h6 : s.data.toList ≠ [105, 102]) :
  Calls Tryz.prog 143 #[.string s] w fun e w' => e = .returned (.int .i64 (signAr s)) ∧ Below w.heap.size w w' := by
 have e1 := str_ne h1
 have e2 := str_ne h2
 have e3 := str_ne h3
 have e4 := str_ne h4
 have e5 := str_ne h5
 have e6 := str_ne h6
 clear h1 h2 h3 h4 h5 h6
 go_enter Tryz.func143, Tryz.ntmps143
 go_wp2_with fail
 go_loopw [2, 3] (fun _ i wr => ∃ k : Nat, k ≤ 5 ∧ i = .int .i64 k ∧ (∀ j, j < k → Lib.containsS (lvlB j) s = false) ∧ Below w.heap.size w wr) (fun _ i _ => 5 - (intOf i).toNat)
 case atStart => exact ⟨0, by omega, rfl, (fun j hj => by omega), Below.refl _ _⟩
 case round =>
  obtain ⟨k, hk, rfl, hno, hb⟩ := hrel
  have HN := Lib.hid hno
  have HB := Lib.hid hb
  clear hno hb
  by_cases hk5 : k < 5
  ·have T := Lib.hid (rsigns_any k hk5 wr)
   go_wp2_with fail
   refine (T.out).mono ?_
   rintro e w1 ⟨⟨A, c, rfl, hs⟩, hb1⟩
   have HS := Lib.hid hs
   have HB1 := Lib.hid (below_step HB.out hb1)
   have hcap := hs.2.1
   have hmax := hs.2.2.1
   unfold maxLen at hmax
   have HD := Lib.hid (show (lvlB k).length = (lvlB k).length from rfl)
   generalize hn : (lvlB k).length = n at hs HS hcap ⊢
   have HLn := Lib.hid hn
   clear hs hb1 hn
   go_wp2_with fail
   go_loop [2, 5] (fun _ i => ∃ m : Nat, m ≤ n ∧ i = .int .i64 m ∧ ∀ x ∈ (lvlB k).take m, x ≠ s) (fun _ i => n - (intOf i).toNat)
   case atStart => exact ⟨0, by omega, rfl, by simp⟩
   case round =>
    obtain ⟨m, hm, rfl, hno⟩ := hrel
    have HM := Lib.hid hno
    clear hno
    by_cases hlm : m < n
    ·obtain ⟨g, o, z, rfl, hz, c1⟩ := strs_at HS.out hlm
     have HZ := Lib.hid hz
     clear hz
     by_cases hzs : z = s
     ·subst hzs
      have E := Lib.hid (show signAr z = 2 by unfold signAr; rw [isSign_hit (contains_hit HZ.out) hk5]; rfl)
      have q1 : (z.toList == z.toList) = true := by simp
      go_wp2_with fail
      go_ret
      exact ⟨by rw [E.out]; rfl, HB1.out⟩
     ·have q1 : (z.toList == s.toList) = false := by rw [str_beq]; simpa using hzs
      have E := Lib.hid (ne_next HM.out HZ.out hzs)
      clear hzs
      go_wp2_with fail
      go_round
      case rel => exact ⟨m + 1, by omega, by go_num, E.out⟩
      case measure => simp [intOf]; omega
    ·have E := Lib.hid (no_next HN.out (contains_none (zs := lvlB k) (s := s) (by have := HM.out; rwa [List.take_of_length_le (by rw [HLn.out]; omega)] at this)))
     go_wp2_with fail
     go_roundw
     case rel => exact ⟨k + 1, by omega, by go_num, E.out, HB1.out⟩
     case measure => simp [intOf]; omega
  ·have E := Lib.hid (show signAr s = -1 by unfold signAr; rw [isSign_take HN.out (by omega)]; rfl)
   obtain rfl : k = 5 := by omega
   go_wp2_with fail
   go_ret
   exact ⟨by rw [E.out]; rfl, HB.out⟩
theorem rarity_any (s : ByteArray) (w : World) : Calls Tryz.prog 143 #[.string s] w fun e w' => e = .returned (.int .i64 (arityOf s)) ∧ Below w.heap.size w w' := by
 unfold arityOf
 by_cases h1 : s.data.toList = [99, 111, 108]
 ·rw [if_pos (Or.inl h1), bytes_of h1]; exact rarity_col w
 by_cases h2 : s.data.toList = [118, 97, 108]
 ·rw [if_pos (Or.inr h2), bytes_of h2]; exact rarity_val w
 rw [if_neg (fun h => h.elim h1 h2)]
 by_cases h3 : s.data.toList = [110, 111, 116]
 ·rw [if_pos (Or.inl h3), bytes_of h3]; exact rarity_not w
 by_cases h4 : s.data.toList = [110, 101, 103]
 ·rw [if_pos (Or.inr (Or.inl h4)), bytes_of h4]; exact rarity_neg w
 by_cases h5 : s.data.toList = [108, 101, 110]
 ·rw [if_pos (Or.inr (Or.inr h5)), bytes_of h5]; exact rarity_len w
 rw [if_neg (fun h => h.elim h3 (fun h => h.elim h4 h5))]
 by_cases h6 : s.data.toList = [105, 102]
 ·rw [if_pos h6, bytes_of h6]; exact rarity_if w
 rw [if_neg h6]
 exact rarity_sign s w h1 h2 h3 h4 h5 h6
mutual
def exDeep : Ex → Nat
 | .mk _ _ _ _ _ l _ => exDeeps 0 l + 1
def exDeeps : Nat → List Ex → Nat
 | n, [] => n
 | n, a :: l => exDeeps (if n < exDeep a then exDeep a else n) l
end
theorem exDeep_eq (e : Ex) : exDeep e = exDeeps 0 e.args + 1 := by cases e; rw [exDeep]; rfl
theorem exDeeps_snoc : ∀ (l : List Ex) (n : Nat) (a : Ex), exDeeps n (l ++ [a]) = if exDeeps n l < exDeep a then exDeep a else exDeeps n l
 | [], n, a => by rw [List.nil_append, exDeeps, exDeeps, exDeeps]
 | x :: l, n, a => by rw [List.cons_append, exDeeps, exDeeps]; exact exDeeps_snoc l _ a
theorem exDeeps_take {l : List Ex} {k : Nat} {a : Ex} (h : l[k]? = some a) : exDeeps 0 (l.take (k + 1)) = if exDeeps 0 (l.take k) < exDeep a then exDeep a else exDeeps 0 (l.take k) := by
 rw [List.take_add_one, h]; exact exDeeps_snoc _ _ _
theorem exDeeps_le : ∀ (l : List Ex) (n B : Nat), n ≤ B → (∀ a ∈ l, exDeep a ≤ B) → exDeeps n l ≤ B
 | [], n, B, hn, _ => by rw [exDeeps]; exact hn
 | a :: l, n, B, hn, h => by
  rw [exDeeps]
  refine exDeeps_le l _ B ?_ fun x hx => h x (List.mem_cons_of_mem _ hx)
  split
  ·exact h a List.mem_cons_self
  ·exact hn
theorem exDeeps_ge : ∀ (l : List Ex) (n : Nat), n ≤ exDeeps n l ∧ ∀ a ∈ l, exDeep a ≤ exDeeps n l
 | [], n => by rw [exDeeps]; exact ⟨Nat.le_refl _, fun a h => by cases h⟩
 | a :: l, n => by
  rw [exDeeps]
  by_cases hlt : n < exDeep a
  ·rw [if_pos hlt]
   obtain ⟨h1, h2⟩ := exDeeps_ge l (exDeep a)
   refine ⟨by omega, fun x hx => ?_⟩
   rcases List.mem_cons.1 hx with rfl | hx
   ·exact h1
   ·exact h2 x hx
  ·rw [if_neg hlt]
   obtain ⟨h1, h2⟩ := exDeeps_ge l n
   refine ⟨h1, fun x hx => ?_⟩
   rcases List.mem_cons.1 hx with rfl | hx
   ·omega
   ·exact h2 x hx
theorem deep_le_n : ∀ (m : Nat) (e : Ex), SizeOf.sizeOf e ≤ m → exDeep e ≤ exN e
 | 0, e, hm => by cases e; simp at hm
 | m + 1, .mk op name v A c args pos, hm => by
  rw [exDeep_eq, exN_eq]
  have := exDeeps_le args 0 (exNs args) (Nat.zero_le _) fun a ha => Nat.le_trans (deep_le_n m a (by have := ex_lt (e := .mk op name v A c args pos) ha; omega)) (exNs_mem ha)
  show exDeeps 0 args + 1 ≤ exNs args + 1
  omega
theorem below_deep : ∀ (m : Nat) (e : Ex), exBelow m e = decide (exDeep e ≤ m)
 | 0, e => by rw [exBelow, exDeep_eq]; simp
 | m + 1, e => by
  rw [exBelow_all, exDeep_eq]
  by_cases h : exDeeps 0 e.args + 1 ≤ m + 1
  ·rw [decide_eq_true h]
   refine List.all_eq_true.2 fun a ha => ?_
   rw [below_deep m a]
   have := (exDeeps_ge e.args 0).2 a ha
   exact decide_eq_true (by omega)
  ·rw [decide_eq_false h]
   cases hb : e.args.all (exBelow m) with
   | false => rfl
   | true =>
    exfalso
    have h2 := exDeeps_le e.args 0 m (Nat.zero_le _) fun a ha => by
     have := List.all_eq_true.1 hb a ha
     rw [below_deep m a] at this
     simpa using this
    omega
def SizeAt (m : Nat) : Prop := ∀ e : Ex, SizeOf.sizeOf e ≤ m → ∀ w : World, SeesEx w e → Calls Tryz.prog 132 #[exV e] w (ValSays (exSize e) w)
def DeepAt (m : Nat) : Prop := ∀ e : Ex, SizeOf.sizeOf e ≤ m → exN e ≤ 1048576 → ∀ w : World, SeesEx w e → Calls Tryz.prog 133 #[exV e] w (ValSays (exDeep e) w)
set_option maxHeartbeats 1000000 in
set_option maxRecDepth 100000 in
theorem rsize_step (m : Nat) (ih : SizeAt m) (op name : ByteArray) (v : Val) (A : Option Addr) (c : Nat) (args : List Ex) (pos : Int) (hm : SizeOf.sizeOf (Ex.mk op name v A c args pos) ≤ m + 1) (w : World) (he : SeesEx w (.mk op name v A c args pos)) :
  Calls Tryz.prog 132 #[exV (.mk op name v A c args pos)] w (ValSays (exSize (.mk op name v A c args pos)) w) := by
 have IH := Lib.hid ih
 have HM := Lib.hid (fun a (ha : a ∈ args) => show SizeOf.sizeOf a ≤ m by have := ex_lt (e := .mk op name v A c args pos) ha; omega)
 have hb0 : Below w.heap.size w (w.alloc (.cells #[.string op, .string name, .int .i64 v.type, .int .i64 v.n, .string v.s, .slice A args.length c, .int .i64 pos] 26)) := belowNew _ _
 have HE := Lib.hid (he.keep hb0)
 have HB := Lib.hid hb0
 have hcap : args.length ≤ c := he.parts.1.2.1
 have hmax : c ≤ maxLen := he.parts.1.2.2.1
 unfold maxLen at hmax
 have HS := Lib.hid (exSize_eq (.mk op name v A c args pos))
 have CE := Lib.hid (fun (w1 : World) (hb : Below (w.alloc (.cells #[.string op, .string name, .int .i64 v.type, .int .i64 v.n, .string v.s, .slice A args.length c, .int .i64 pos] 26)).heap.size (w.alloc (.cells #[.string op, .string name, .int .i64 v.type, .int .i64 v.n, .string v.s, .slice A args.length c, .int .i64 pos] 26)) w1) => (hb.cell (p := ⟨w.heap.size, 5, none⟩) (by simp)).trans (show _ = some (.slice A args.length c) by simp))
 show Calls Tryz.prog 132 #[.agg #[.string op, .string name, .int .i64 v.type, .int .i64 v.n, .string v.s, .slice A args.length c, .int .i64 pos]] w _
 generalize hn : args.length = n at hcap HE HB CE ⊢
 have HLn := Lib.hid hn
 clear hm he hb0 hn ih
 go_enter Tryz.func132, Tryz.ntmps132
 go_wp2_with fail
 generalize w.alloc (.cells #[.string op, .string name, .int .i64 v.type, .int .i64 v.n, .string v.s, .slice A n c, .int .i64 pos] 26) = w0 at HE HB CE ⊢
 go_loopw [3, 4] (fun s i wr => ∃ k : Nat, k ≤ n ∧ i = .int .i64 k ∧ s = .int .i64 (exSizes 1 (args.take k)) ∧ Below w0.heap.size w0 wr) (fun _ i _ => n - (intOf i).toNat)
 case atStart => exact ⟨0, by omega, rfl, rfl, Below.refl _ _⟩
 case round =>
  obtain ⟨k, hk, rfl, rfl, hb⟩ := hrel
  have HBR := Lib.hid hb
  have d5 := CE.out wr hb
  by_cases hlk : k < n
  ·obtain ⟨g, o, x, (rfl : A = _), hg, hx, hsx, c0, c1, c2, c3, c4, c5, c6⟩ := (HE.out.keep hb).at_ (k := k) (by show k < args.length; rw [HLn.out]; exact hlk)
   have HX := Lib.hid (show args[k]? = some x from hx)
   have T := Lib.hid (IH.out x (HM.out x (List.mem_of_getElem? HX.out)) wr hsx)
   unfold exV at T
   clear hb hx hsx
   have E := Lib.hid (exSizes_take (n := 1) HX.out)
   go_wp2_with fail
   refine (T.out).mono ?_
   rintro e' w1 ⟨rfl, hb1⟩
   have HB1 := Lib.hid (below_step HBR.out hb1)
   clear hb1
   go_wp2_with fail
   go_roundw
   case rel => exact ⟨k + 1, by omega, by go_num, by rw [E.out], HB1.out⟩
   case measure => simp [intOf]; omega
  ·obtain rfl : n = k := by omega
   have htk : args.take n = args := List.take_of_length_le (by rw [HLn.out]; exact Nat.le_refl _)
   rw [htk]
   clear hb htk
   go_wp2_with fail
   go_ret
   exact ⟨by rw [HS.out]; rfl, below_step HB.out HBR.out⟩
theorem rsize_any : ∀ m : Nat, SizeAt m
 | 0 => fun e hm _ _ => by cases e; simp at hm
 | m + 1 => fun e hm w he => by
  obtain ⟨op, name, v, A, c, args, pos⟩ := e
  exact rsize_step m (rsize_any m) op name v A c args pos hm w he
set_option maxHeartbeats 1000000 in
set_option maxRecDepth 100000 in
theorem rdeep_step (m : Nat) (ih : DeepAt m) (op name : ByteArray) (v : Val) (A : Option Addr) (c : Nat) (args : List Ex) (pos : Int) (hm : SizeOf.sizeOf (Ex.mk op name v A c args pos) ≤ m + 1) (hN : exN (Ex.mk op name v A c args pos) ≤ 1048576) (w : World) (he : SeesEx w (.mk op name v A c args pos)) :
  Calls Tryz.prog 133 #[exV (.mk op name v A c args pos)] w (ValSays (exDeep (.mk op name v A c args pos)) w) := by
 have IH := Lib.hid ih
 have HM := Lib.hid (fun a (ha : a ∈ args) => show SizeOf.sizeOf a ≤ m by have := ex_lt (e := .mk op name v A c args pos) ha; omega)
 have hb0 : Below w.heap.size w (w.alloc (.cells #[.string op, .string name, .int .i64 v.type, .int .i64 v.n, .string v.s, .slice A args.length c, .int .i64 pos] 26)) := belowNew _ _
 have HE := Lib.hid (he.keep hb0)
 have HB := Lib.hid hb0
 have hcap : args.length ≤ c := he.parts.1.2.1
 have hmax : c ≤ maxLen := he.parts.1.2.2.1
 unfold maxLen at hmax
 have HS := Lib.hid (exDeep_eq (.mk op name v A c args pos))
 have HNN := Lib.hid (show ∀ a ∈ args, exN a ≤ 1048576 from fun a ha => by have h1 := exNs_mem ha; rw [exN] at hN; omega)
 have HDB := Lib.hid (show exDeeps 0 args ≤ 1048576 from exDeeps_le args 0 1048576 (Nat.zero_le _) fun a ha => Nat.le_trans (deep_le_n _ a (Nat.le_refl _)) (HNN.out a ha))
 replace HS := Lib.hid (show exDeep (.mk op name v A c args pos) = exDeeps 0 args + 1 from HS.out)
 have CE := Lib.hid (fun (w1 : World) (hb : Below (w.alloc (.cells #[.string op, .string name, .int .i64 v.type, .int .i64 v.n, .string v.s, .slice A args.length c, .int .i64 pos] 26)).heap.size (w.alloc (.cells #[.string op, .string name, .int .i64 v.type, .int .i64 v.n, .string v.s, .slice A args.length c, .int .i64 pos] 26)) w1) => (hb.cell (p := ⟨w.heap.size, 5, none⟩) (by simp)).trans (show _ = some (.slice A args.length c) by simp))
 show Calls Tryz.prog 133 #[.agg #[.string op, .string name, .int .i64 v.type, .int .i64 v.n, .string v.s, .slice A args.length c, .int .i64 pos]] w _
 generalize hn : args.length = n at hcap HE HB CE ⊢
 have HLn := Lib.hid hn
 clear hm he hb0 hn ih hN
 go_enter Tryz.func133, Tryz.ntmps133
 go_wp2_with fail
 generalize w.alloc (.cells #[.string op, .string name, .int .i64 v.type, .int .i64 v.n, .string v.s, .slice A n c, .int .i64 pos] 26) = w0 at HE HB CE ⊢
 go_loopw [3, 4] (fun s i wr => ∃ k : Nat, k ≤ n ∧ i = .int .i64 k ∧ s = .int .i64 (exDeeps 0 (args.take k) : Nat) ∧ Below w0.heap.size w0 wr) (fun _ i _ => n - (intOf i).toNat)
 case atStart => exact ⟨0, by omega, rfl, rfl, Below.refl _ _⟩
 case round =>
  obtain ⟨k, hk, rfl, rfl, hb⟩ := hrel
  have HBR := Lib.hid hb
  have d5 := CE.out wr hb
  by_cases hlk : k < n
  ·obtain ⟨g, o, x, (rfl : A = _), hg, hx, hsx, c0, c1, c2, c3, c4, c5, c6⟩ := (HE.out.keep hb).at_ (k := k) (by show k < args.length; rw [HLn.out]; exact hlk)
   have HX := Lib.hid (show args[k]? = some x from hx)
   have T := Lib.hid (IH.out x (HM.out x (List.mem_of_getElem? HX.out)) (HNN.out x (List.mem_of_getElem? HX.out)) wr hsx)
   unfold exV at T
   clear hb hx hsx
   have E := Lib.hid (exDeeps_take HX.out)
   generalize exDeep x = dx at T E
   generalize exDeeps 0 (args.take k) = dk at E ⊢
   by_cases hd : dk < dx
   ·have q : decide (dk < dx) = true := decide_eq_true hd
    have E2 := Lib.hid (show exDeeps 0 (args.take (k + 1)) = dx by rw [E.out, if_pos hd])
    clear hd
    go_wp2_with fail
    refine (T.out).mono ?_
    rintro e' w1 ⟨rfl, hb1⟩
    have HB1 := Lib.hid (below_step HBR.out hb1)
    clear hb1
    go_wp2_with fail
    go_roundw
    case rel => exact ⟨k + 1, by omega, by go_num, by rw [E2.out], HB1.out⟩
    case measure => simp [intOf]; omega
   ·have q : decide (dk < dx) = false := decide_eq_false hd
    have E2 := Lib.hid (show exDeeps 0 (args.take (k + 1)) = dk by rw [E.out, if_neg hd])
    clear hd
    go_wp2_with fail
    refine (T.out).mono ?_
    rintro e' w1 ⟨rfl, hb1⟩
    have HB1 := Lib.hid (below_step HBR.out hb1)
    clear hb1
    go_wp2_with fail
    go_roundw
    case rel => exact ⟨k + 1, by omega, by go_num, by rw [E2.out], HB1.out⟩
    case measure => simp [intOf]; omega
  ·obtain rfl : n = k := by omega
   have htk : args.take n = args := List.take_of_length_le (by rw [HLn.out]; exact Nat.le_refl _)
   rw [htk]
   clear hb htk
   have hDB := HDB.out
   generalize exDeeps 0 args = dd at hDB HS ⊢
   go_wp2_with fail
   go_ret
   exact ⟨by rw [HS.out]; go_num, below_step HB.out HBR.out⟩
theorem rdeep_any : ∀ m : Nat, DeepAt m
 | 0 => fun e hm _ _ _ => by cases e; simp at hm
 | m + 1 => fun e hm hN w he => by
  obtain ⟨op, name, v, A, c, args, pos⟩ := e
  exact rdeep_step m (rdeep_any m) op name v A c args pos hm hN w he
end Go.Proofs.YtpbbkpfaphjdoaaGreatDoor
namespace Go.Proofs.YtpbbkpfaphjdoaaGreatDoor
open Go.ChangeShapes Go.WideShapes Go.ChangeAt Go.RowKit
section
variable (op name : ByteArray) (A : Option Addr) (c : Nat) (pos : Int) (w : World) (t m : Int) (s : ByteArray)
set_option maxHeartbeats 1000000 in
set_option maxRecDepth 100000 in
theorem rnode_other_none (n : Nat) (hs : name.size ≤ maxLen) (_h1 : (op.toList == [99, 111, 108]) = false) (_h2 : (op.toList == [118, 97, 108]) = false) (h3 : decide (arityOf op < 0) = true) :
  Calls Tryz.prog 76 #[.agg #[.string op, .string name, .int .i64 t, .int .i64 m, .string s, .slice A n c, .int .i64 pos]] w (ValSays 2 w) := by
 have CE := Lib.hid (fun (w1 : World) (hb : Below (w.alloc (.cells #[.string op, .string name, .int .i64 t, .int .i64 m, .string s, .slice A n c, .int .i64 pos] 26)).heap.size (w.alloc (.cells #[.string op, .string name, .int .i64 t, .int .i64 m, .string s, .slice A n c, .int .i64 pos] 26)) w1) (j : Nat) (u : Value) (hu : (#[.string op, .string name, .int .i64 t, .int .i64 m, .string s, .slice A n c, .int .i64 pos] : Array Value)[j]? = some u) => (hb.cell (p := ⟨w.heap.size, j, none⟩) (by simp)).trans (show ((w.alloc (.cells #[.string op, .string name, .int .i64 t, .int .i64 m, .string s, .slice A n c, .int .i64 pos] 26))).cell? ⟨w.heap.size, j, none⟩ = some u by rw [cell_of_row _ _ _ _ _ _ (heap_alloc_new w _)]; exact hu))
 have TA := Lib.hid (rarity_any op (w.alloc (.cells #[.string op, .string name, .int .i64 t, .int .i64 m, .string s, .slice A n c, .int .i64 pos] 26)))
 have TN := Lib.hid (fun w1 => rtname_any name w1 hs)
 have HB := Lib.hid (belowNew w (.cells #[.string op, .string name, .int .i64 t, .int .i64 m, .string s, .slice A n c, .int .i64 pos] 26))
 generalize arityOf op = ar at *
 generalize treeName name = tn at TN
 clear hs
 go_enter Tryz.func76, Tryz.ntmps76
 go_wp2_with fail
 refine (TA.out).mono ?_
 rintro e w1 ⟨rfl, hb1⟩
 have HB1 := Lib.hid hb1
 have d1 := CE.out w1 hb1 1 _ rfl
 clear hb1
 go_wp2_with fail
 refine (TN.out w1).mono ?_
 rintro e w2 ⟨rfl, hb2⟩
 have HB2 := Lib.hid (below_step HB1.out hb2)
 clear hb2 d1
 have d0 := CE.out w2 HB2.out 0 _ rfl
 have d1 := CE.out w2 HB2.out 1 _ rfl
 have d2 := CE.out w2 HB2.out 2 _ rfl
 have d3 := CE.out w2 HB2.out 3 _ rfl
 have d4 := CE.out w2 HB2.out 4 _ rfl
 have d5 := CE.out w2 HB2.out 5 _ rfl
 go_wp2_with fail
 go_ret
 exact ⟨rfl, below_step HB.out HB2.out⟩
set_option maxHeartbeats 1000000 in
set_option maxRecDepth 100000 in
theorem rnode_other_len (n : Nat) (hs : name.size ≤ maxLen) (h1 : (op.toList == [99, 111, 108]) = false) (_h2 : (op.toList == [118, 97, 108]) = false) (h3 : decide (arityOf op < 0) = false) (h4 : ((n : Int) != arityOf op) = true) :
  Calls Tryz.prog 76 #[.agg #[.string op, .string name, .int .i64 t, .int .i64 m, .string s, .slice A n c, .int .i64 pos]] w (ValSays 3 w) := by
 have CE := Lib.hid (fun (w1 : World) (hb : Below (w.alloc (.cells #[.string op, .string name, .int .i64 t, .int .i64 m, .string s, .slice A n c, .int .i64 pos] 26)).heap.size (w.alloc (.cells #[.string op, .string name, .int .i64 t, .int .i64 m, .string s, .slice A n c, .int .i64 pos] 26)) w1) (j : Nat) (u : Value) (hu : (#[.string op, .string name, .int .i64 t, .int .i64 m, .string s, .slice A n c, .int .i64 pos] : Array Value)[j]? = some u) => (hb.cell (p := ⟨w.heap.size, j, none⟩) (by simp)).trans (show ((w.alloc (.cells #[.string op, .string name, .int .i64 t, .int .i64 m, .string s, .slice A n c, .int .i64 pos] 26))).cell? ⟨w.heap.size, j, none⟩ = some u by rw [cell_of_row _ _ _ _ _ _ (heap_alloc_new w _)]; exact hu))
 have TA := Lib.hid (rarity_any op (w.alloc (.cells #[.string op, .string name, .int .i64 t, .int .i64 m, .string s, .slice A n c, .int .i64 pos] 26)))
 have TN := Lib.hid (fun w1 => rtname_any name w1 hs)
 have HB := Lib.hid (belowNew w (.cells #[.string op, .string name, .int .i64 t, .int .i64 m, .string s, .slice A n c, .int .i64 pos] 26))
 generalize arityOf op = ar at *
 generalize treeName name = tn at TN
 clear hs
 go_enter Tryz.func76, Tryz.ntmps76
 go_wp2_with fail
 refine (TA.out).mono ?_
 rintro e w1 ⟨rfl, hb1⟩
 have HB1 := Lib.hid hb1
 have d1 := CE.out w1 hb1 1 _ rfl
 clear hb1
 go_wp2_with fail
 refine (TN.out w1).mono ?_
 rintro e w2 ⟨rfl, hb2⟩
 have HB2 := Lib.hid (below_step HB1.out hb2)
 clear hb2 d1
 have d0 := CE.out w2 HB2.out 0 _ rfl
 have d1 := CE.out w2 HB2.out 1 _ rfl
 have d2 := CE.out w2 HB2.out 2 _ rfl
 have d3 := CE.out w2 HB2.out 3 _ rfl
 have d4 := CE.out w2 HB2.out 4 _ rfl
 have d5 := CE.out w2 HB2.out 5 _ rfl
 go_wp2_with fail
 go_ret
 exact ⟨rfl, below_step HB.out HB2.out⟩
set_option maxHeartbeats 1000000 in
set_option maxRecDepth 100000 in
theorem rnode_other_name (n : Nat) (hs : name.size ≤ maxLen) (h1 : (op.toList == [99, 111, 108]) = false) (_h2 : (op.toList == [118, 97, 108]) = false) (h3 : decide (arityOf op < 0) = false) (h4 : ((n : Int) != arityOf op) = false) (h5 : name.toList.isEmpty = false) :
  Calls Tryz.prog 76 #[.agg #[.string op, .string name, .int .i64 t, .int .i64 m, .string s, .slice A n c, .int .i64 pos]] w (ValSays 3 w) := by
 have CE := Lib.hid (fun (w1 : World) (hb : Below (w.alloc (.cells #[.string op, .string name, .int .i64 t, .int .i64 m, .string s, .slice A n c, .int .i64 pos] 26)).heap.size (w.alloc (.cells #[.string op, .string name, .int .i64 t, .int .i64 m, .string s, .slice A n c, .int .i64 pos] 26)) w1) (j : Nat) (u : Value) (hu : (#[.string op, .string name, .int .i64 t, .int .i64 m, .string s, .slice A n c, .int .i64 pos] : Array Value)[j]? = some u) => (hb.cell (p := ⟨w.heap.size, j, none⟩) (by simp)).trans (show ((w.alloc (.cells #[.string op, .string name, .int .i64 t, .int .i64 m, .string s, .slice A n c, .int .i64 pos] 26))).cell? ⟨w.heap.size, j, none⟩ = some u by rw [cell_of_row _ _ _ _ _ _ (heap_alloc_new w _)]; exact hu))
 have TA := Lib.hid (rarity_any op (w.alloc (.cells #[.string op, .string name, .int .i64 t, .int .i64 m, .string s, .slice A n c, .int .i64 pos] 26)))
 have TN := Lib.hid (fun w1 => rtname_any name w1 hs)
 have HB := Lib.hid (belowNew w (.cells #[.string op, .string name, .int .i64 t, .int .i64 m, .string s, .slice A n c, .int .i64 pos] 26))
 generalize arityOf op = ar at *
 generalize treeName name = tn at TN
 have h5' : (!name.toList.isEmpty) = true := by rw [h5]; rfl
 clear hs
 go_enter Tryz.func76, Tryz.ntmps76
 go_wp2_with fail
 refine (TA.out).mono ?_
 rintro e w1 ⟨rfl, hb1⟩
 have HB1 := Lib.hid hb1
 have d1 := CE.out w1 hb1 1 _ rfl
 clear hb1
 go_wp2_with fail
 refine (TN.out w1).mono ?_
 rintro e w2 ⟨rfl, hb2⟩
 have HB2 := Lib.hid (below_step HB1.out hb2)
 clear hb2 d1
 have d0 := CE.out w2 HB2.out 0 _ rfl
 have d1 := CE.out w2 HB2.out 1 _ rfl
 have d2 := CE.out w2 HB2.out 2 _ rfl
 have d3 := CE.out w2 HB2.out 3 _ rfl
 have d4 := CE.out w2 HB2.out 4 _ rfl
 have d5 := CE.out w2 HB2.out 5 _ rfl
 go_wp2_with fail
 go_ret
 exact ⟨rfl, below_step HB.out HB2.out⟩
set_option maxHeartbeats 1000000 in
set_option maxRecDepth 100000 in
theorem rnode_other_t (n : Nat) (hs : name.size ≤ maxLen) (h1 : (op.toList == [99, 111, 108]) = false) (h2 : (op.toList == [118, 97, 108]) = false) (h3 : decide (arityOf op < 0) = false) (h4 : ((n : Int) != arityOf op) = false) (h5 : name.toList = []) (h6 : (t == 0) = false) :
  Calls Tryz.prog 76 #[.agg #[.string op, .string name, .int .i64 t, .int .i64 m, .string s, .slice A n c, .int .i64 pos]] w (ValSays 3 w) := by
 have CE := Lib.hid (fun (w1 : World) (hb : Below (w.alloc (.cells #[.string op, .string name, .int .i64 t, .int .i64 m, .string s, .slice A n c, .int .i64 pos] 26)).heap.size (w.alloc (.cells #[.string op, .string name, .int .i64 t, .int .i64 m, .string s, .slice A n c, .int .i64 pos] 26)) w1) (j : Nat) (u : Value) (hu : (#[.string op, .string name, .int .i64 t, .int .i64 m, .string s, .slice A n c, .int .i64 pos] : Array Value)[j]? = some u) => (hb.cell (p := ⟨w.heap.size, j, none⟩) (by simp)).trans (show ((w.alloc (.cells #[.string op, .string name, .int .i64 t, .int .i64 m, .string s, .slice A n c, .int .i64 pos] 26))).cell? ⟨w.heap.size, j, none⟩ = some u by rw [cell_of_row _ _ _ _ _ _ (heap_alloc_new w _)]; exact hu))
 have TA := Lib.hid (rarity_any op (w.alloc (.cells #[.string op, .string name, .int .i64 t, .int .i64 m, .string s, .slice A n c, .int .i64 pos] 26)))
 have TN := Lib.hid (fun w1 => rtname_any name w1 hs)
 have HB := Lib.hid (belowNew w (.cells #[.string op, .string name, .int .i64 t, .int .i64 m, .string s, .slice A n c, .int .i64 pos] 26))
 generalize arityOf op = ar at *
 generalize treeName name = tn at TN
 have h5' : (!name.toList.isEmpty) = false := by rw [h5]; rfl
 have h6' : (t != 0) = true := by unfold bne; rw [h6]; rfl
 clear hs
 go_enter Tryz.func76, Tryz.ntmps76
 go_wp2_with fail
 refine (TA.out).mono ?_
 rintro e w1 ⟨rfl, hb1⟩
 have HB1 := Lib.hid hb1
 have d1 := CE.out w1 hb1 1 _ rfl
 clear hb1
 go_wp2_with fail
 refine (TN.out w1).mono ?_
 rintro e w2 ⟨rfl, hb2⟩
 have HB2 := Lib.hid (below_step HB1.out hb2)
 clear hb2 d1
 have d0 := CE.out w2 HB2.out 0 _ rfl
 have d1 := CE.out w2 HB2.out 1 _ rfl
 have d2 := CE.out w2 HB2.out 2 _ rfl
 have d3 := CE.out w2 HB2.out 3 _ rfl
 have d4 := CE.out w2 HB2.out 4 _ rfl
 have d5 := CE.out w2 HB2.out 5 _ rfl
 go_wp2_with fail
 go_ret
 exact ⟨rfl, below_step HB.out HB2.out⟩
set_option maxHeartbeats 1000000 in
set_option maxRecDepth 100000 in
theorem rnode_other_m (n : Nat) (hs : name.size ≤ maxLen) (h1 : (op.toList == [99, 111, 108]) = false) (h2 : (op.toList == [118, 97, 108]) = false) (h3 : decide (arityOf op < 0) = false) (h4 : ((n : Int) != arityOf op) = false) (h5 : name.toList = []) (ht : t = 0) (h6 : (m == 0) = false) :
  Calls Tryz.prog 76 #[.agg #[.string op, .string name, .int .i64 t, .int .i64 m, .string s, .slice A n c, .int .i64 pos]] w (ValSays 3 w) := by
 have CE := Lib.hid (fun (w1 : World) (hb : Below (w.alloc (.cells #[.string op, .string name, .int .i64 t, .int .i64 m, .string s, .slice A n c, .int .i64 pos] 26)).heap.size (w.alloc (.cells #[.string op, .string name, .int .i64 t, .int .i64 m, .string s, .slice A n c, .int .i64 pos] 26)) w1) (j : Nat) (u : Value) (hu : (#[.string op, .string name, .int .i64 t, .int .i64 m, .string s, .slice A n c, .int .i64 pos] : Array Value)[j]? = some u) => (hb.cell (p := ⟨w.heap.size, j, none⟩) (by simp)).trans (show ((w.alloc (.cells #[.string op, .string name, .int .i64 t, .int .i64 m, .string s, .slice A n c, .int .i64 pos] 26))).cell? ⟨w.heap.size, j, none⟩ = some u by rw [cell_of_row _ _ _ _ _ _ (heap_alloc_new w _)]; exact hu))
 have TA := Lib.hid (rarity_any op (w.alloc (.cells #[.string op, .string name, .int .i64 t, .int .i64 m, .string s, .slice A n c, .int .i64 pos] 26)))
 have TN := Lib.hid (fun w1 => rtname_any name w1 hs)
 have HB := Lib.hid (belowNew w (.cells #[.string op, .string name, .int .i64 t, .int .i64 m, .string s, .slice A n c, .int .i64 pos] 26))
 generalize arityOf op = ar at *
 generalize treeName name = tn at TN
 have h5' : (!name.toList.isEmpty) = false := by rw [h5]; rfl
 have h6' : (m != 0) = true := by unfold bne; rw [h6]; rfl
 subst ht
 clear hs
 go_enter Tryz.func76, Tryz.ntmps76
 go_wp2_with fail
 refine (TA.out).mono ?_
 rintro e w1 ⟨rfl, hb1⟩
 have HB1 := Lib.hid hb1
 have d1 := CE.out w1 hb1 1 _ rfl
 clear hb1
 go_wp2_with fail
 refine (TN.out w1).mono ?_
 rintro e w2 ⟨rfl, hb2⟩
 have HB2 := Lib.hid (below_step HB1.out hb2)
 clear hb2 d1
 have d0 := CE.out w2 HB2.out 0 _ rfl
 have d1 := CE.out w2 HB2.out 1 _ rfl
 have d2 := CE.out w2 HB2.out 2 _ rfl
 have d3 := CE.out w2 HB2.out 3 _ rfl
 have d4 := CE.out w2 HB2.out 4 _ rfl
 have d5 := CE.out w2 HB2.out 5 _ rfl
 go_wp2_with fail
 go_ret
 exact ⟨rfl, below_step HB.out HB2.out⟩
set_option maxHeartbeats 1000000 in
set_option maxRecDepth 100000 in
theorem rnode_other_s (n : Nat) (hs : name.size ≤ maxLen) (h1 : (op.toList == [99, 111, 108]) = false) (h2 : (op.toList == [118, 97, 108]) = false) (h3 : decide (arityOf op < 0) = false) (h4 : ((n : Int) != arityOf op) = false) (h5 : name.toList = []) (ht : t = 0) (hm : m = 0) (h6 : s.toList.isEmpty = false) :
  Calls Tryz.prog 76 #[.agg #[.string op, .string name, .int .i64 t, .int .i64 m, .string s, .slice A n c, .int .i64 pos]] w (ValSays 3 w) := by
 have CE := Lib.hid (fun (w1 : World) (hb : Below (w.alloc (.cells #[.string op, .string name, .int .i64 t, .int .i64 m, .string s, .slice A n c, .int .i64 pos] 26)).heap.size (w.alloc (.cells #[.string op, .string name, .int .i64 t, .int .i64 m, .string s, .slice A n c, .int .i64 pos] 26)) w1) (j : Nat) (u : Value) (hu : (#[.string op, .string name, .int .i64 t, .int .i64 m, .string s, .slice A n c, .int .i64 pos] : Array Value)[j]? = some u) => (hb.cell (p := ⟨w.heap.size, j, none⟩) (by simp)).trans (show ((w.alloc (.cells #[.string op, .string name, .int .i64 t, .int .i64 m, .string s, .slice A n c, .int .i64 pos] 26))).cell? ⟨w.heap.size, j, none⟩ = some u by rw [cell_of_row _ _ _ _ _ _ (heap_alloc_new w _)]; exact hu))
 have TA := Lib.hid (rarity_any op (w.alloc (.cells #[.string op, .string name, .int .i64 t, .int .i64 m, .string s, .slice A n c, .int .i64 pos] 26)))
 have TN := Lib.hid (fun w1 => rtname_any name w1 hs)
 have HB := Lib.hid (belowNew w (.cells #[.string op, .string name, .int .i64 t, .int .i64 m, .string s, .slice A n c, .int .i64 pos] 26))
 generalize arityOf op = ar at *
 generalize treeName name = tn at TN
 have h5' : (!name.toList.isEmpty) = false := by rw [h5]; rfl
 have h6' : (!s.toList.isEmpty) = true := by rw [h6]; rfl
 subst ht hm
 clear hs
 go_enter Tryz.func76, Tryz.ntmps76
 go_wp2_with fail
 refine (TA.out).mono ?_
 rintro e w1 ⟨rfl, hb1⟩
 have HB1 := Lib.hid hb1
 have d1 := CE.out w1 hb1 1 _ rfl
 clear hb1
 go_wp2_with fail
 refine (TN.out w1).mono ?_
 rintro e w2 ⟨rfl, hb2⟩
 have HB2 := Lib.hid (below_step HB1.out hb2)
 clear hb2 d1
 have d0 := CE.out w2 HB2.out 0 _ rfl
 have d1 := CE.out w2 HB2.out 1 _ rfl
 have d2 := CE.out w2 HB2.out 2 _ rfl
 have d3 := CE.out w2 HB2.out 3 _ rfl
 have d4 := CE.out w2 HB2.out 4 _ rfl
 have d5 := CE.out w2 HB2.out 5 _ rfl
 go_wp2_with fail
 go_ret
 exact ⟨rfl, below_step HB.out HB2.out⟩
set_option maxHeartbeats 1000000 in
set_option maxRecDepth 100000 in
theorem rnode_col_name (n : Nat) (hs : name.size ≤ maxLen) (hk : treeName name = false) :
  Calls Tryz.prog 76 #[.agg #[.string ⟨#[99, 111, 108]⟩, .string name, .int .i64 t, .int .i64 m, .string s, .slice A n c, .int .i64 pos]] w (ValSays 2 w) := by
 have CE := Lib.hid (fun (w1 : World) (hb : Below (w.alloc (.cells #[.string ⟨#[99, 111, 108]⟩, .string name, .int .i64 t, .int .i64 m, .string s, .slice A n c, .int .i64 pos] 26)).heap.size (w.alloc (.cells #[.string ⟨#[99, 111, 108]⟩, .string name, .int .i64 t, .int .i64 m, .string s, .slice A n c, .int .i64 pos] 26)) w1) (j : Nat) (u : Value) (hu : (#[.string ⟨#[99, 111, 108]⟩, .string name, .int .i64 t, .int .i64 m, .string s, .slice A n c, .int .i64 pos] : Array Value)[j]? = some u) => (hb.cell (p := ⟨w.heap.size, j, none⟩) (by simp)).trans (show ((w.alloc (.cells #[.string ⟨#[99, 111, 108]⟩, .string name, .int .i64 t, .int .i64 m, .string s, .slice A n c, .int .i64 pos] 26))).cell? ⟨w.heap.size, j, none⟩ = some u by rw [cell_of_row _ _ _ _ _ _ (heap_alloc_new w _)]; exact hu))
 have TA := Lib.hid (rarity_any ⟨#[99, 111, 108]⟩ (w.alloc (.cells #[.string ⟨#[99, 111, 108]⟩, .string name, .int .i64 t, .int .i64 m, .string s, .slice A n c, .int .i64 pos] 26)))
 have TN := Lib.hid (fun w1 => rtname_any name w1 hs)
 have HB := Lib.hid (belowNew w (.cells #[.string ⟨#[99, 111, 108]⟩, .string name, .int .i64 t, .int .i64 m, .string s, .slice A n c, .int .i64 pos] 26))
 have HK := Lib.hid hk
 rw [hk] at TN
 clear hk
 clear hs
 rw [show arityOf ⟨#[99, 111, 108]⟩ = 0 by decide] at TA
 go_enter Tryz.func76, Tryz.ntmps76
 go_wp2_with fail
 refine (TA.out).mono ?_
 rintro e w1 ⟨rfl, hb1⟩
 have HB1 := Lib.hid hb1
 have d1 := CE.out w1 hb1 1 _ rfl
 clear hb1
 go_wp2_with fail
 refine (TN.out w1).mono ?_
 rintro e w2 ⟨rfl, hb2⟩
 have HB2 := Lib.hid (below_step HB1.out hb2)
 clear hb2 d1
 have d0 := CE.out w2 HB2.out 0 _ rfl
 have d1 := CE.out w2 HB2.out 1 _ rfl
 have d2 := CE.out w2 HB2.out 2 _ rfl
 have d3 := CE.out w2 HB2.out 3 _ rfl
 have d4 := CE.out w2 HB2.out 4 _ rfl
 have d5 := CE.out w2 HB2.out 5 _ rfl
 go_wp2_with fail
 go_ret
 exact ⟨rfl, below_step HB.out HB2.out⟩
set_option maxHeartbeats 1000000 in
set_option maxRecDepth 100000 in
theorem rnode_col_len (n : Nat) (hs : name.size ≤ maxLen) (hk : treeName name = true) (h4 : ((n : Int) != 0) = true) :
  Calls Tryz.prog 76 #[.agg #[.string ⟨#[99, 111, 108]⟩, .string name, .int .i64 t, .int .i64 m, .string s, .slice A n c, .int .i64 pos]] w (ValSays 3 w) := by
 have CE := Lib.hid (fun (w1 : World) (hb : Below (w.alloc (.cells #[.string ⟨#[99, 111, 108]⟩, .string name, .int .i64 t, .int .i64 m, .string s, .slice A n c, .int .i64 pos] 26)).heap.size (w.alloc (.cells #[.string ⟨#[99, 111, 108]⟩, .string name, .int .i64 t, .int .i64 m, .string s, .slice A n c, .int .i64 pos] 26)) w1) (j : Nat) (u : Value) (hu : (#[.string ⟨#[99, 111, 108]⟩, .string name, .int .i64 t, .int .i64 m, .string s, .slice A n c, .int .i64 pos] : Array Value)[j]? = some u) => (hb.cell (p := ⟨w.heap.size, j, none⟩) (by simp)).trans (show ((w.alloc (.cells #[.string ⟨#[99, 111, 108]⟩, .string name, .int .i64 t, .int .i64 m, .string s, .slice A n c, .int .i64 pos] 26))).cell? ⟨w.heap.size, j, none⟩ = some u by rw [cell_of_row _ _ _ _ _ _ (heap_alloc_new w _)]; exact hu))
 have TA := Lib.hid (rarity_any ⟨#[99, 111, 108]⟩ (w.alloc (.cells #[.string ⟨#[99, 111, 108]⟩, .string name, .int .i64 t, .int .i64 m, .string s, .slice A n c, .int .i64 pos] 26)))
 have TN := Lib.hid (fun w1 => rtname_any name w1 hs)
 have HB := Lib.hid (belowNew w (.cells #[.string ⟨#[99, 111, 108]⟩, .string name, .int .i64 t, .int .i64 m, .string s, .slice A n c, .int .i64 pos] 26))
 have HK := Lib.hid hk
 rw [hk] at TN
 clear hk
 clear hs
 rw [show arityOf ⟨#[99, 111, 108]⟩ = 0 by decide] at TA
 go_enter Tryz.func76, Tryz.ntmps76
 go_wp2_with fail
 refine (TA.out).mono ?_
 rintro e w1 ⟨rfl, hb1⟩
 have HB1 := Lib.hid hb1
 have d1 := CE.out w1 hb1 1 _ rfl
 clear hb1
 go_wp2_with fail
 refine (TN.out w1).mono ?_
 rintro e w2 ⟨rfl, hb2⟩
 have HB2 := Lib.hid (below_step HB1.out hb2)
 clear hb2 d1
 have d0 := CE.out w2 HB2.out 0 _ rfl
 have d1 := CE.out w2 HB2.out 1 _ rfl
 have d2 := CE.out w2 HB2.out 2 _ rfl
 have d3 := CE.out w2 HB2.out 3 _ rfl
 have d4 := CE.out w2 HB2.out 4 _ rfl
 have d5 := CE.out w2 HB2.out 5 _ rfl
 go_wp2_with fail
 go_ret
 exact ⟨rfl, below_step HB.out HB2.out⟩
set_option maxHeartbeats 1000000 in
set_option maxRecDepth 100000 in
theorem rnode_col_t (n : Nat) (hs : name.size ≤ maxLen) (hk : treeName name = true) (h4 : ((n : Int) != 0) = false) (h6 : (t == 0) = false) :
  Calls Tryz.prog 76 #[.agg #[.string ⟨#[99, 111, 108]⟩, .string name, .int .i64 t, .int .i64 m, .string s, .slice A n c, .int .i64 pos]] w (ValSays 3 w) := by
 have CE := Lib.hid (fun (w1 : World) (hb : Below (w.alloc (.cells #[.string ⟨#[99, 111, 108]⟩, .string name, .int .i64 t, .int .i64 m, .string s, .slice A n c, .int .i64 pos] 26)).heap.size (w.alloc (.cells #[.string ⟨#[99, 111, 108]⟩, .string name, .int .i64 t, .int .i64 m, .string s, .slice A n c, .int .i64 pos] 26)) w1) (j : Nat) (u : Value) (hu : (#[.string ⟨#[99, 111, 108]⟩, .string name, .int .i64 t, .int .i64 m, .string s, .slice A n c, .int .i64 pos] : Array Value)[j]? = some u) => (hb.cell (p := ⟨w.heap.size, j, none⟩) (by simp)).trans (show ((w.alloc (.cells #[.string ⟨#[99, 111, 108]⟩, .string name, .int .i64 t, .int .i64 m, .string s, .slice A n c, .int .i64 pos] 26))).cell? ⟨w.heap.size, j, none⟩ = some u by rw [cell_of_row _ _ _ _ _ _ (heap_alloc_new w _)]; exact hu))
 have TA := Lib.hid (rarity_any ⟨#[99, 111, 108]⟩ (w.alloc (.cells #[.string ⟨#[99, 111, 108]⟩, .string name, .int .i64 t, .int .i64 m, .string s, .slice A n c, .int .i64 pos] 26)))
 have TN := Lib.hid (fun w1 => rtname_any name w1 hs)
 have HB := Lib.hid (belowNew w (.cells #[.string ⟨#[99, 111, 108]⟩, .string name, .int .i64 t, .int .i64 m, .string s, .slice A n c, .int .i64 pos] 26))
 have HK := Lib.hid hk
 rw [hk] at TN
 clear hk
 have h6' : (t != 0) = true := by unfold bne; rw [h6]; rfl
 clear hs
 rw [show arityOf ⟨#[99, 111, 108]⟩ = 0 by decide] at TA
 go_enter Tryz.func76, Tryz.ntmps76
 go_wp2_with fail
 refine (TA.out).mono ?_
 rintro e w1 ⟨rfl, hb1⟩
 have HB1 := Lib.hid hb1
 have d1 := CE.out w1 hb1 1 _ rfl
 clear hb1
 go_wp2_with fail
 refine (TN.out w1).mono ?_
 rintro e w2 ⟨rfl, hb2⟩
 have HB2 := Lib.hid (below_step HB1.out hb2)
 clear hb2 d1
 have d0 := CE.out w2 HB2.out 0 _ rfl
 have d1 := CE.out w2 HB2.out 1 _ rfl
 have d2 := CE.out w2 HB2.out 2 _ rfl
 have d3 := CE.out w2 HB2.out 3 _ rfl
 have d4 := CE.out w2 HB2.out 4 _ rfl
 have d5 := CE.out w2 HB2.out 5 _ rfl
 go_wp2_with fail
 go_ret
 exact ⟨rfl, below_step HB.out HB2.out⟩
set_option maxHeartbeats 1000000 in
set_option maxRecDepth 100000 in
theorem rnode_col_m (n : Nat) (hs : name.size ≤ maxLen) (hk : treeName name = true) (h4 : ((n : Int) != 0) = false) (ht : t = 0) (h6 : (m == 0) = false) :
  Calls Tryz.prog 76 #[.agg #[.string ⟨#[99, 111, 108]⟩, .string name, .int .i64 t, .int .i64 m, .string s, .slice A n c, .int .i64 pos]] w (ValSays 3 w) := by
 have CE := Lib.hid (fun (w1 : World) (hb : Below (w.alloc (.cells #[.string ⟨#[99, 111, 108]⟩, .string name, .int .i64 t, .int .i64 m, .string s, .slice A n c, .int .i64 pos] 26)).heap.size (w.alloc (.cells #[.string ⟨#[99, 111, 108]⟩, .string name, .int .i64 t, .int .i64 m, .string s, .slice A n c, .int .i64 pos] 26)) w1) (j : Nat) (u : Value) (hu : (#[.string ⟨#[99, 111, 108]⟩, .string name, .int .i64 t, .int .i64 m, .string s, .slice A n c, .int .i64 pos] : Array Value)[j]? = some u) => (hb.cell (p := ⟨w.heap.size, j, none⟩) (by simp)).trans (show ((w.alloc (.cells #[.string ⟨#[99, 111, 108]⟩, .string name, .int .i64 t, .int .i64 m, .string s, .slice A n c, .int .i64 pos] 26))).cell? ⟨w.heap.size, j, none⟩ = some u by rw [cell_of_row _ _ _ _ _ _ (heap_alloc_new w _)]; exact hu))
 have TA := Lib.hid (rarity_any ⟨#[99, 111, 108]⟩ (w.alloc (.cells #[.string ⟨#[99, 111, 108]⟩, .string name, .int .i64 t, .int .i64 m, .string s, .slice A n c, .int .i64 pos] 26)))
 have TN := Lib.hid (fun w1 => rtname_any name w1 hs)
 have HB := Lib.hid (belowNew w (.cells #[.string ⟨#[99, 111, 108]⟩, .string name, .int .i64 t, .int .i64 m, .string s, .slice A n c, .int .i64 pos] 26))
 have HK := Lib.hid hk
 rw [hk] at TN
 clear hk
 have h6' : (m != 0) = true := by unfold bne; rw [h6]; rfl
 subst ht
 clear hs
 rw [show arityOf ⟨#[99, 111, 108]⟩ = 0 by decide] at TA
 go_enter Tryz.func76, Tryz.ntmps76
 go_wp2_with fail
 refine (TA.out).mono ?_
 rintro e w1 ⟨rfl, hb1⟩
 have HB1 := Lib.hid hb1
 have d1 := CE.out w1 hb1 1 _ rfl
 clear hb1
 go_wp2_with fail
 refine (TN.out w1).mono ?_
 rintro e w2 ⟨rfl, hb2⟩
 have HB2 := Lib.hid (below_step HB1.out hb2)
 clear hb2 d1
 have d0 := CE.out w2 HB2.out 0 _ rfl
 have d1 := CE.out w2 HB2.out 1 _ rfl
 have d2 := CE.out w2 HB2.out 2 _ rfl
 have d3 := CE.out w2 HB2.out 3 _ rfl
 have d4 := CE.out w2 HB2.out 4 _ rfl
 have d5 := CE.out w2 HB2.out 5 _ rfl
 go_wp2_with fail
 go_ret
 exact ⟨rfl, below_step HB.out HB2.out⟩
set_option maxHeartbeats 1000000 in
set_option maxRecDepth 100000 in
theorem rnode_col_s (n : Nat) (hs : name.size ≤ maxLen) (hk : treeName name = true) (h4 : ((n : Int) != 0) = false) (ht : t = 0) (hm : m = 0) (h6 : s.toList.isEmpty = false) :
  Calls Tryz.prog 76 #[.agg #[.string ⟨#[99, 111, 108]⟩, .string name, .int .i64 t, .int .i64 m, .string s, .slice A n c, .int .i64 pos]] w (ValSays 3 w) := by
 have CE := Lib.hid (fun (w1 : World) (hb : Below (w.alloc (.cells #[.string ⟨#[99, 111, 108]⟩, .string name, .int .i64 t, .int .i64 m, .string s, .slice A n c, .int .i64 pos] 26)).heap.size (w.alloc (.cells #[.string ⟨#[99, 111, 108]⟩, .string name, .int .i64 t, .int .i64 m, .string s, .slice A n c, .int .i64 pos] 26)) w1) (j : Nat) (u : Value) (hu : (#[.string ⟨#[99, 111, 108]⟩, .string name, .int .i64 t, .int .i64 m, .string s, .slice A n c, .int .i64 pos] : Array Value)[j]? = some u) => (hb.cell (p := ⟨w.heap.size, j, none⟩) (by simp)).trans (show ((w.alloc (.cells #[.string ⟨#[99, 111, 108]⟩, .string name, .int .i64 t, .int .i64 m, .string s, .slice A n c, .int .i64 pos] 26))).cell? ⟨w.heap.size, j, none⟩ = some u by rw [cell_of_row _ _ _ _ _ _ (heap_alloc_new w _)]; exact hu))
 have TA := Lib.hid (rarity_any ⟨#[99, 111, 108]⟩ (w.alloc (.cells #[.string ⟨#[99, 111, 108]⟩, .string name, .int .i64 t, .int .i64 m, .string s, .slice A n c, .int .i64 pos] 26)))
 have TN := Lib.hid (fun w1 => rtname_any name w1 hs)
 have HB := Lib.hid (belowNew w (.cells #[.string ⟨#[99, 111, 108]⟩, .string name, .int .i64 t, .int .i64 m, .string s, .slice A n c, .int .i64 pos] 26))
 have HK := Lib.hid hk
 rw [hk] at TN
 clear hk
 have h6' : (!s.toList.isEmpty) = true := by rw [h6]; rfl
 subst ht hm
 clear hs
 rw [show arityOf ⟨#[99, 111, 108]⟩ = 0 by decide] at TA
 go_enter Tryz.func76, Tryz.ntmps76
 go_wp2_with fail
 refine (TA.out).mono ?_
 rintro e w1 ⟨rfl, hb1⟩
 have HB1 := Lib.hid hb1
 have d1 := CE.out w1 hb1 1 _ rfl
 clear hb1
 go_wp2_with fail
 refine (TN.out w1).mono ?_
 rintro e w2 ⟨rfl, hb2⟩
 have HB2 := Lib.hid (below_step HB1.out hb2)
 clear hb2 d1
 have d0 := CE.out w2 HB2.out 0 _ rfl
 have d1 := CE.out w2 HB2.out 1 _ rfl
 have d2 := CE.out w2 HB2.out 2 _ rfl
 have d3 := CE.out w2 HB2.out 3 _ rfl
 have d4 := CE.out w2 HB2.out 4 _ rfl
 have d5 := CE.out w2 HB2.out 5 _ rfl
 go_wp2_with fail
 go_ret
 exact ⟨rfl, below_step HB.out HB2.out⟩
set_option maxHeartbeats 1000000 in
set_option maxRecDepth 100000 in
theorem rnode_val_len (n : Nat) (hs : name.size ≤ maxLen) (h4 : ((n : Int) != 0) = true) :
  Calls Tryz.prog 76 #[.agg #[.string ⟨#[118, 97, 108]⟩, .string name, .int .i64 t, .int .i64 m, .string s, .slice A n c, .int .i64 pos]] w (ValSays 3 w) := by
 have CE := Lib.hid (fun (w1 : World) (hb : Below (w.alloc (.cells #[.string ⟨#[118, 97, 108]⟩, .string name, .int .i64 t, .int .i64 m, .string s, .slice A n c, .int .i64 pos] 26)).heap.size (w.alloc (.cells #[.string ⟨#[118, 97, 108]⟩, .string name, .int .i64 t, .int .i64 m, .string s, .slice A n c, .int .i64 pos] 26)) w1) (j : Nat) (u : Value) (hu : (#[.string ⟨#[118, 97, 108]⟩, .string name, .int .i64 t, .int .i64 m, .string s, .slice A n c, .int .i64 pos] : Array Value)[j]? = some u) => (hb.cell (p := ⟨w.heap.size, j, none⟩) (by simp)).trans (show ((w.alloc (.cells #[.string ⟨#[118, 97, 108]⟩, .string name, .int .i64 t, .int .i64 m, .string s, .slice A n c, .int .i64 pos] 26))).cell? ⟨w.heap.size, j, none⟩ = some u by rw [cell_of_row _ _ _ _ _ _ (heap_alloc_new w _)]; exact hu))
 have TA := Lib.hid (rarity_any ⟨#[118, 97, 108]⟩ (w.alloc (.cells #[.string ⟨#[118, 97, 108]⟩, .string name, .int .i64 t, .int .i64 m, .string s, .slice A n c, .int .i64 pos] 26)))
 have TN := Lib.hid (fun w1 => rtname_any name w1 hs)
 have HB := Lib.hid (belowNew w (.cells #[.string ⟨#[118, 97, 108]⟩, .string name, .int .i64 t, .int .i64 m, .string s, .slice A n c, .int .i64 pos] 26))
 generalize treeName name = tn at TN
 clear hs
 rw [show arityOf ⟨#[118, 97, 108]⟩ = 0 by decide] at TA
 go_enter Tryz.func76, Tryz.ntmps76
 go_wp2_with fail
 refine (TA.out).mono ?_
 rintro e w1 ⟨rfl, hb1⟩
 have HB1 := Lib.hid hb1
 have d1 := CE.out w1 hb1 1 _ rfl
 clear hb1
 go_wp2_with fail
 refine (TN.out w1).mono ?_
 rintro e w2 ⟨rfl, hb2⟩
 have HB2 := Lib.hid (below_step HB1.out hb2)
 clear hb2 d1
 have d0 := CE.out w2 HB2.out 0 _ rfl
 have d1 := CE.out w2 HB2.out 1 _ rfl
 have d2 := CE.out w2 HB2.out 2 _ rfl
 have d3 := CE.out w2 HB2.out 3 _ rfl
 have d4 := CE.out w2 HB2.out 4 _ rfl
 have d5 := CE.out w2 HB2.out 5 _ rfl
 go_wp2_with fail
 go_ret
 exact ⟨rfl, below_step HB.out HB2.out⟩
set_option maxHeartbeats 1000000 in
set_option maxRecDepth 100000 in
theorem rnode_val_name (n : Nat) (hs : name.size ≤ maxLen) (h4 : ((n : Int) != 0) = false) (h5 : name.toList.isEmpty = false) :
  Calls Tryz.prog 76 #[.agg #[.string ⟨#[118, 97, 108]⟩, .string name, .int .i64 t, .int .i64 m, .string s, .slice A n c, .int .i64 pos]] w (ValSays 3 w) := by
 have CE := Lib.hid (fun (w1 : World) (hb : Below (w.alloc (.cells #[.string ⟨#[118, 97, 108]⟩, .string name, .int .i64 t, .int .i64 m, .string s, .slice A n c, .int .i64 pos] 26)).heap.size (w.alloc (.cells #[.string ⟨#[118, 97, 108]⟩, .string name, .int .i64 t, .int .i64 m, .string s, .slice A n c, .int .i64 pos] 26)) w1) (j : Nat) (u : Value) (hu : (#[.string ⟨#[118, 97, 108]⟩, .string name, .int .i64 t, .int .i64 m, .string s, .slice A n c, .int .i64 pos] : Array Value)[j]? = some u) => (hb.cell (p := ⟨w.heap.size, j, none⟩) (by simp)).trans (show ((w.alloc (.cells #[.string ⟨#[118, 97, 108]⟩, .string name, .int .i64 t, .int .i64 m, .string s, .slice A n c, .int .i64 pos] 26))).cell? ⟨w.heap.size, j, none⟩ = some u by rw [cell_of_row _ _ _ _ _ _ (heap_alloc_new w _)]; exact hu))
 have TA := Lib.hid (rarity_any ⟨#[118, 97, 108]⟩ (w.alloc (.cells #[.string ⟨#[118, 97, 108]⟩, .string name, .int .i64 t, .int .i64 m, .string s, .slice A n c, .int .i64 pos] 26)))
 have TN := Lib.hid (fun w1 => rtname_any name w1 hs)
 have HB := Lib.hid (belowNew w (.cells #[.string ⟨#[118, 97, 108]⟩, .string name, .int .i64 t, .int .i64 m, .string s, .slice A n c, .int .i64 pos] 26))
 generalize treeName name = tn at TN
 have h5' : (!name.toList.isEmpty) = true := by rw [h5]; rfl
 clear hs
 rw [show arityOf ⟨#[118, 97, 108]⟩ = 0 by decide] at TA
 go_enter Tryz.func76, Tryz.ntmps76
 go_wp2_with fail
 refine (TA.out).mono ?_
 rintro e w1 ⟨rfl, hb1⟩
 have HB1 := Lib.hid hb1
 have d1 := CE.out w1 hb1 1 _ rfl
 clear hb1
 go_wp2_with fail
 refine (TN.out w1).mono ?_
 rintro e w2 ⟨rfl, hb2⟩
 have HB2 := Lib.hid (below_step HB1.out hb2)
 clear hb2 d1
 have d0 := CE.out w2 HB2.out 0 _ rfl
 have d1 := CE.out w2 HB2.out 1 _ rfl
 have d2 := CE.out w2 HB2.out 2 _ rfl
 have d3 := CE.out w2 HB2.out 3 _ rfl
 have d4 := CE.out w2 HB2.out 4 _ rfl
 have d5 := CE.out w2 HB2.out 5 _ rfl
 go_wp2_with fail
 go_ret
 exact ⟨rfl, below_step HB.out HB2.out⟩
set_option maxHeartbeats 1000000 in
set_option maxRecDepth 100000 in
theorem rnode_val_bad (n : Nat) (hs : name.size ≤ maxLen) (h4 : ((n : Int) != 0) = false) (h5 : name.toList = []) (hsz : s.size ≤ maxLen) (k : Int) (hk : vcheck ⟨t, m, s⟩ = k) (h6 : (k == 0) = false) :
  Calls Tryz.prog 76 #[.agg #[.string ⟨#[118, 97, 108]⟩, .string name, .int .i64 t, .int .i64 m, .string s, .slice A n c, .int .i64 pos]] w (ValSays k w) := by
 have CE := Lib.hid (fun (w1 : World) (hb : Below (w.alloc (.cells #[.string ⟨#[118, 97, 108]⟩, .string name, .int .i64 t, .int .i64 m, .string s, .slice A n c, .int .i64 pos] 26)).heap.size (w.alloc (.cells #[.string ⟨#[118, 97, 108]⟩, .string name, .int .i64 t, .int .i64 m, .string s, .slice A n c, .int .i64 pos] 26)) w1) (j : Nat) (u : Value) (hu : (#[.string ⟨#[118, 97, 108]⟩, .string name, .int .i64 t, .int .i64 m, .string s, .slice A n c, .int .i64 pos] : Array Value)[j]? = some u) => (hb.cell (p := ⟨w.heap.size, j, none⟩) (by simp)).trans (show ((w.alloc (.cells #[.string ⟨#[118, 97, 108]⟩, .string name, .int .i64 t, .int .i64 m, .string s, .slice A n c, .int .i64 pos] 26))).cell? ⟨w.heap.size, j, none⟩ = some u by rw [cell_of_row _ _ _ _ _ _ (heap_alloc_new w _)]; exact hu))
 have TA := Lib.hid (rarity_any ⟨#[118, 97, 108]⟩ (w.alloc (.cells #[.string ⟨#[118, 97, 108]⟩, .string name, .int .i64 t, .int .i64 m, .string s, .slice A n c, .int .i64 pos] 26)))
 have TN := Lib.hid (fun w1 => rtname_any name w1 hs)
 have HB := Lib.hid (belowNew w (.cells #[.string ⟨#[118, 97, 108]⟩, .string name, .int .i64 t, .int .i64 m, .string s, .slice A n c, .int .i64 pos] 26))
 generalize treeName name = tn at TN
 have h5' : (!name.toList.isEmpty) = false := by rw [h5]; rfl
 have HK := Lib.hid hk
 clear hk
 clear hs
 rw [show arityOf ⟨#[118, 97, 108]⟩ = 0 by decide] at TA
 go_enter Tryz.func76, Tryz.ntmps76
 go_wp2_with fail
 refine (TA.out).mono ?_
 rintro e w1 ⟨rfl, hb1⟩
 have HB1 := Lib.hid hb1
 have d1 := CE.out w1 hb1 1 _ rfl
 clear hb1
 go_wp2_with fail
 refine (TN.out w1).mono ?_
 rintro e w2 ⟨rfl, hb2⟩
 have HB2 := Lib.hid (below_step HB1.out hb2)
 clear hb2 d1
 have d0 := CE.out w2 HB2.out 0 _ rfl
 have d1 := CE.out w2 HB2.out 1 _ rfl
 have d2 := CE.out w2 HB2.out 2 _ rfl
 have d3 := CE.out w2 HB2.out 3 _ rfl
 have d4 := CE.out w2 HB2.out 4 _ rfl
 have d5 := CE.out w2 HB2.out 5 _ rfl
 go_wp2_with fail
 refine (rval_any ⟨t, m, s⟩ w2 hsz).mono ?_
 rintro e w3 ⟨rfl, hb3⟩
 rw [HK.out]
 have HB3 := Lib.hid (below_step HB2.out hb3)
 have d2 := CE.out w3 HB3.out 2 _ rfl
 have d3 := CE.out w3 HB3.out 3 _ rfl
 clear hb3
 go_wp2_with fail
 go_ret
 exact ⟨rfl, below_step HB.out HB3.out⟩
set_option maxHeartbeats 1000000 in
set_option maxRecDepth 100000 in
theorem rnode_val_neg (n : Nat) (hs : name.size ≤ maxLen) (h4 : ((n : Int) != 0) = false) (h5 : name.toList = []) (hsz : s.size ≤ maxLen) (hk : vcheck ⟨1, m, s⟩ = 0) (h7 : decide (m < 0) = true) :
  Calls Tryz.prog 76 #[.agg #[.string ⟨#[118, 97, 108]⟩, .string name, .int .i64 1, .int .i64 m, .string s, .slice A n c, .int .i64 pos]] w (ValSays 1 w) := by
 have CE := Lib.hid (fun (w1 : World) (hb : Below (w.alloc (.cells #[.string ⟨#[118, 97, 108]⟩, .string name, .int .i64 1, .int .i64 m, .string s, .slice A n c, .int .i64 pos] 26)).heap.size (w.alloc (.cells #[.string ⟨#[118, 97, 108]⟩, .string name, .int .i64 1, .int .i64 m, .string s, .slice A n c, .int .i64 pos] 26)) w1) (j : Nat) (u : Value) (hu : (#[.string ⟨#[118, 97, 108]⟩, .string name, .int .i64 1, .int .i64 m, .string s, .slice A n c, .int .i64 pos] : Array Value)[j]? = some u) => (hb.cell (p := ⟨w.heap.size, j, none⟩) (by simp)).trans (show ((w.alloc (.cells #[.string ⟨#[118, 97, 108]⟩, .string name, .int .i64 1, .int .i64 m, .string s, .slice A n c, .int .i64 pos] 26))).cell? ⟨w.heap.size, j, none⟩ = some u by rw [cell_of_row _ _ _ _ _ _ (heap_alloc_new w _)]; exact hu))
 have TA := Lib.hid (rarity_any ⟨#[118, 97, 108]⟩ (w.alloc (.cells #[.string ⟨#[118, 97, 108]⟩, .string name, .int .i64 1, .int .i64 m, .string s, .slice A n c, .int .i64 pos] 26)))
 have TN := Lib.hid (fun w1 => rtname_any name w1 hs)
 have HB := Lib.hid (belowNew w (.cells #[.string ⟨#[118, 97, 108]⟩, .string name, .int .i64 1, .int .i64 m, .string s, .slice A n c, .int .i64 pos] 26))
 generalize treeName name = tn at TN
 have h5' : (!name.toList.isEmpty) = false := by rw [h5]; rfl
 have HK := Lib.hid hk
 clear hk
 clear hs
 rw [show arityOf ⟨#[118, 97, 108]⟩ = 0 by decide] at TA
 go_enter Tryz.func76, Tryz.ntmps76
 go_wp2_with fail
 refine (TA.out).mono ?_
 rintro e w1 ⟨rfl, hb1⟩
 have HB1 := Lib.hid hb1
 have d1 := CE.out w1 hb1 1 _ rfl
 clear hb1
 go_wp2_with fail
 refine (TN.out w1).mono ?_
 rintro e w2 ⟨rfl, hb2⟩
 have HB2 := Lib.hid (below_step HB1.out hb2)
 clear hb2 d1
 have d0 := CE.out w2 HB2.out 0 _ rfl
 have d1 := CE.out w2 HB2.out 1 _ rfl
 have d2 := CE.out w2 HB2.out 2 _ rfl
 have d3 := CE.out w2 HB2.out 3 _ rfl
 have d4 := CE.out w2 HB2.out 4 _ rfl
 have d5 := CE.out w2 HB2.out 5 _ rfl
 go_wp2_with fail
 refine (rval_any ⟨1, m, s⟩ w2 hsz).mono ?_
 rintro e w3 ⟨rfl, hb3⟩
 rw [HK.out]
 have HB3 := Lib.hid (below_step HB2.out hb3)
 have d2 := CE.out w3 HB3.out 2 _ rfl
 have d3 := CE.out w3 HB3.out 3 _ rfl
 clear hb3
 go_wp2_with fail
 go_ret
 exact ⟨rfl, below_step HB.out HB3.out⟩
set_option maxHeartbeats 1000000 in
set_option maxRecDepth 100000 in
theorem rnode_val_ok1 (n : Nat) (hs : name.size ≤ maxLen) (h4 : ((n : Int) != 0) = false) (h5 : name.toList = []) (hsz : s.size ≤ maxLen) (hk : vcheck ⟨1, m, s⟩ = 0) (h7 : decide (m < 0) = false) :
  Calls Tryz.prog 76 #[.agg #[.string ⟨#[118, 97, 108]⟩, .string name, .int .i64 1, .int .i64 m, .string s, .slice A n c, .int .i64 pos]] w (ValSays 0 w) := by
 have CE := Lib.hid (fun (w1 : World) (hb : Below (w.alloc (.cells #[.string ⟨#[118, 97, 108]⟩, .string name, .int .i64 1, .int .i64 m, .string s, .slice A n c, .int .i64 pos] 26)).heap.size (w.alloc (.cells #[.string ⟨#[118, 97, 108]⟩, .string name, .int .i64 1, .int .i64 m, .string s, .slice A n c, .int .i64 pos] 26)) w1) (j : Nat) (u : Value) (hu : (#[.string ⟨#[118, 97, 108]⟩, .string name, .int .i64 1, .int .i64 m, .string s, .slice A n c, .int .i64 pos] : Array Value)[j]? = some u) => (hb.cell (p := ⟨w.heap.size, j, none⟩) (by simp)).trans (show ((w.alloc (.cells #[.string ⟨#[118, 97, 108]⟩, .string name, .int .i64 1, .int .i64 m, .string s, .slice A n c, .int .i64 pos] 26))).cell? ⟨w.heap.size, j, none⟩ = some u by rw [cell_of_row _ _ _ _ _ _ (heap_alloc_new w _)]; exact hu))
 have TA := Lib.hid (rarity_any ⟨#[118, 97, 108]⟩ (w.alloc (.cells #[.string ⟨#[118, 97, 108]⟩, .string name, .int .i64 1, .int .i64 m, .string s, .slice A n c, .int .i64 pos] 26)))
 have TN := Lib.hid (fun w1 => rtname_any name w1 hs)
 have HB := Lib.hid (belowNew w (.cells #[.string ⟨#[118, 97, 108]⟩, .string name, .int .i64 1, .int .i64 m, .string s, .slice A n c, .int .i64 pos] 26))
 generalize treeName name = tn at TN
 have h5' : (!name.toList.isEmpty) = false := by rw [h5]; rfl
 have HK := Lib.hid hk
 clear hk
 clear hs
 rw [show arityOf ⟨#[118, 97, 108]⟩ = 0 by decide] at TA
 go_enter Tryz.func76, Tryz.ntmps76
 go_wp2_with fail
 refine (TA.out).mono ?_
 rintro e w1 ⟨rfl, hb1⟩
 have HB1 := Lib.hid hb1
 have d1 := CE.out w1 hb1 1 _ rfl
 clear hb1
 go_wp2_with fail
 refine (TN.out w1).mono ?_
 rintro e w2 ⟨rfl, hb2⟩
 have HB2 := Lib.hid (below_step HB1.out hb2)
 clear hb2 d1
 have d0 := CE.out w2 HB2.out 0 _ rfl
 have d1 := CE.out w2 HB2.out 1 _ rfl
 have d2 := CE.out w2 HB2.out 2 _ rfl
 have d3 := CE.out w2 HB2.out 3 _ rfl
 have d4 := CE.out w2 HB2.out 4 _ rfl
 have d5 := CE.out w2 HB2.out 5 _ rfl
 go_wp2_with fail
 refine (rval_any ⟨1, m, s⟩ w2 hsz).mono ?_
 rintro e w3 ⟨rfl, hb3⟩
 rw [HK.out]
 have HB3 := Lib.hid (below_step HB2.out hb3)
 have d2 := CE.out w3 HB3.out 2 _ rfl
 have d3 := CE.out w3 HB3.out 3 _ rfl
 clear hb3
 go_wp2_with fail
 go_ret
 exact ⟨rfl, below_step HB.out HB3.out⟩
set_option maxHeartbeats 1000000 in
set_option maxRecDepth 100000 in
theorem rnode_val_ok2 (n : Nat) (hs : name.size ≤ maxLen) (h4 : ((n : Int) != 0) = false) (h5 : name.toList = []) (hsz : s.size ≤ maxLen) (hk : vcheck ⟨t, m, s⟩ = 0) (h6 : (t == 1) = false) :
  Calls Tryz.prog 76 #[.agg #[.string ⟨#[118, 97, 108]⟩, .string name, .int .i64 t, .int .i64 m, .string s, .slice A n c, .int .i64 pos]] w (ValSays 0 w) := by
 have CE := Lib.hid (fun (w1 : World) (hb : Below (w.alloc (.cells #[.string ⟨#[118, 97, 108]⟩, .string name, .int .i64 t, .int .i64 m, .string s, .slice A n c, .int .i64 pos] 26)).heap.size (w.alloc (.cells #[.string ⟨#[118, 97, 108]⟩, .string name, .int .i64 t, .int .i64 m, .string s, .slice A n c, .int .i64 pos] 26)) w1) (j : Nat) (u : Value) (hu : (#[.string ⟨#[118, 97, 108]⟩, .string name, .int .i64 t, .int .i64 m, .string s, .slice A n c, .int .i64 pos] : Array Value)[j]? = some u) => (hb.cell (p := ⟨w.heap.size, j, none⟩) (by simp)).trans (show ((w.alloc (.cells #[.string ⟨#[118, 97, 108]⟩, .string name, .int .i64 t, .int .i64 m, .string s, .slice A n c, .int .i64 pos] 26))).cell? ⟨w.heap.size, j, none⟩ = some u by rw [cell_of_row _ _ _ _ _ _ (heap_alloc_new w _)]; exact hu))
 have TA := Lib.hid (rarity_any ⟨#[118, 97, 108]⟩ (w.alloc (.cells #[.string ⟨#[118, 97, 108]⟩, .string name, .int .i64 t, .int .i64 m, .string s, .slice A n c, .int .i64 pos] 26)))
 have TN := Lib.hid (fun w1 => rtname_any name w1 hs)
 have HB := Lib.hid (belowNew w (.cells #[.string ⟨#[118, 97, 108]⟩, .string name, .int .i64 t, .int .i64 m, .string s, .slice A n c, .int .i64 pos] 26))
 generalize treeName name = tn at TN
 have h5' : (!name.toList.isEmpty) = false := by rw [h5]; rfl
 have HK := Lib.hid hk
 clear hk
 clear hs
 rw [show arityOf ⟨#[118, 97, 108]⟩ = 0 by decide] at TA
 go_enter Tryz.func76, Tryz.ntmps76
 go_wp2_with fail
 refine (TA.out).mono ?_
 rintro e w1 ⟨rfl, hb1⟩
 have HB1 := Lib.hid hb1
 have d1 := CE.out w1 hb1 1 _ rfl
 clear hb1
 go_wp2_with fail
 refine (TN.out w1).mono ?_
 rintro e w2 ⟨rfl, hb2⟩
 have HB2 := Lib.hid (below_step HB1.out hb2)
 clear hb2 d1
 have d0 := CE.out w2 HB2.out 0 _ rfl
 have d1 := CE.out w2 HB2.out 1 _ rfl
 have d2 := CE.out w2 HB2.out 2 _ rfl
 have d3 := CE.out w2 HB2.out 3 _ rfl
 have d4 := CE.out w2 HB2.out 4 _ rfl
 have d5 := CE.out w2 HB2.out 5 _ rfl
 go_wp2_with fail
 refine (rval_any ⟨t, m, s⟩ w2 hsz).mono ?_
 rintro e w3 ⟨rfl, hb3⟩
 rw [HK.out]
 have HB3 := Lib.hid (below_step HB2.out hb3)
 have d2 := CE.out w3 HB3.out 2 _ rfl
 have d3 := CE.out w3 HB3.out 3 _ rfl
 clear hb3
 go_wp2_with fail
 go_ret
 exact ⟨rfl, below_step HB.out HB3.out⟩
end
def RNodesAt (m : Nat) : Prop := ∀ e : Ex, SizeOf.sizeOf e ≤ m → ∀ w : World, SeesEx w e → Calls Tryz.prog 76 #[exV e] w (ValSays (nodesErr e) w)
set_option maxHeartbeats 1000000 in
set_option maxRecDepth 100000 in
theorem rnodes_loop (m : Nat) (ih : RNodesAt m) (op name : ByteArray) (A : Option Addr) (c : Nat) (args : List Ex) (pos : Int) (hm : SizeOf.sizeOf (Ex.mk op name noVal A c args pos) ≤ m + 1)
  (w : World) (he : SeesEx w (.mk op name noVal A c args pos)) (h2 : (op.toList == [118, 97, 108]) = false) (h3 : decide (arityOf op < 0) = false) (h4 : ((args.length : Int) != arityOf op) = false)
  (hc : ((op.toList == [99, 111, 108]) = true ∧ treeName name = true) ∨ ((op.toList == [99, 111, 108]) = false ∧ name.toList = [])) :
  Calls Tryz.prog 76 #[.agg #[.string op, .string name, .int .i64 0, .int .i64 0, .string ⟨#[]⟩, .slice A args.length c, .int .i64 pos]] w (ValSays (nodesErrs args) w) := by
 have IH := Lib.hid ih
 have HM := Lib.hid (fun a (ha : a ∈ args) => show SizeOf.sizeOf a ≤ m by have := ex_lt (e := .mk op name noVal A c args pos) ha; omega)
 have hb0 : Below w.heap.size w (w.alloc (.cells #[.string op, .string name, .int .i64 0, .int .i64 0, .string ⟨#[]⟩, .slice A args.length c, .int .i64 pos] 26)) := belowNew _ _
 have HE := Lib.hid (he.keep hb0)
 have HB := Lib.hid hb0
 have hcap : args.length ≤ c := he.parts.1.2.1
 have hmax : c ≤ maxLen := he.parts.1.2.2.1
 unfold maxLen at hmax
 have hs : name.size ≤ maxLen := he.parts.2.2.1
 have CE := Lib.hid (fun (w1 : World) (hb : Below (w.alloc (.cells #[.string op, .string name, .int .i64 0, .int .i64 0, .string ⟨#[]⟩, .slice A args.length c, .int .i64 pos] 26)).heap.size (w.alloc (.cells #[.string op, .string name, .int .i64 0, .int .i64 0, .string ⟨#[]⟩, .slice A args.length c, .int .i64 pos] 26)) w1) (j : Nat) (u : Value) (hu : (#[.string op, .string name, .int .i64 0, .int .i64 0, .string ⟨#[]⟩, .slice A args.length c, .int .i64 pos] : Array Value)[j]? = some u) => (hb.cell (p := ⟨w.heap.size, j, none⟩) (by simp)).trans (show (w.alloc (.cells #[.string op, .string name, .int .i64 0, .int .i64 0, .string ⟨#[]⟩, .slice A args.length c, .int .i64 pos] 26)).cell? ⟨w.heap.size, j, none⟩ = some u by rw [cell_of_row _ _ _ _ _ _ (heap_alloc_new w _)]; exact hu))
 have TA := Lib.hid (rarity_any op (w.alloc (.cells #[.string op, .string name, .int .i64 0, .int .i64 0, .string ⟨#[]⟩, .slice A args.length c, .int .i64 pos] 26)))
 have TN := Lib.hid (fun w1 => rtname_any name w1 hs)
 generalize arityOf op = ar at *
 generalize hn : args.length = n at hcap HE HB CE TA h4 ⊢
 have HLn := Lib.hid hn
 clear hm he hb0 hn ih hs
 generalize hw0 : w.alloc (.cells #[.string op, .string name, .int .i64 0, .int .i64 0, .string ⟨#[]⟩, .slice A n c, .int .i64 pos] 26) = w0 at HE HB CE TA
 have HW0 := Lib.hid hw0
 clear hw0
 rcases hc with ⟨h1, hk⟩ | ⟨h1, h5⟩
 ·rw [hk] at TN
  clear hk
  have d0 := CE.out w0 (Below.refl _ _) 0 _ rfl
  go_enter Tryz.func76, Tryz.ntmps76
  go_wp2_with (first | rw [HW0.out])
  refine (TA.out).mono ?_
  rintro e w1 ⟨rfl, hb1⟩
  have HB1 := Lib.hid hb1
  have d1 := CE.out w1 hb1 1 _ rfl
  clear hb1
  go_wp2_with fail
  refine (TN.out w1).mono ?_
  rintro e w2 ⟨rfl, hb2⟩
  have HB2 := Lib.hid (below_step HB1.out hb2)
  clear hb2 d1 d0
  have d0 := CE.out w2 HB2.out 0 _ rfl
  have d1 := CE.out w2 HB2.out 1 _ rfl
  have d2 := CE.out w2 HB2.out 2 _ rfl
  have d3 := CE.out w2 HB2.out 3 _ rfl
  have d4 := CE.out w2 HB2.out 4 _ rfl
  have d5 := CE.out w2 HB2.out 5 _ rfl
  go_wp2_with fail
  clear d0 d1 d2 d3 d4 d5
  go_loopw [2, 6] (fun _ i wr => ∃ k : Nat, k ≤ n ∧ i = .int .i64 k ∧ nodesErrs (args.take k) = 0 ∧ Below w0.heap.size w0 wr) (fun _ i _ => n - (intOf i).toNat)
  case atStart => exact ⟨0, by omega, rfl, rfl, HB2.out⟩
  case round =>
   obtain ⟨k, hk, rfl, hno, hb⟩ := hrel
   have HBR := Lib.hid hb
   have HNO := Lib.hid hno
   have d5 := CE.out wr hb 5 _ rfl
   clear hno
   by_cases hlk : k < n
   ·obtain ⟨g, o, x, (rfl : A = _), hg, hx, hsx, c0, c1, c2, c3, c4, c5, c6⟩ := (HE.out.keep hb).at_ (k := k) (by show k < args.length; rw [HLn.out]; exact hlk)
    have HX := Lib.hid (show args[k]? = some x from hx)
    have T := Lib.hid (IH.out x (HM.out x (List.mem_of_getElem? HX.out)) wr hsx)
    unfold exV at T
    clear hb hx hsx
    generalize hxe : nodesErr x = nx at T
    have HXE := Lib.hid hxe
    clear hxe
    by_cases hz : nx = 0
    ·have E := Lib.hid (nodesErrs_next HNO.out HX.out (HXE.out.trans hz))
     subst hz
     go_wp2_with fail
     refine (T.out).mono ?_
     rintro e' w3 ⟨rfl, hb3⟩
     have HB3 := Lib.hid (below_step HBR.out hb3)
     clear hb3
     go_wp2_with fail
     go_roundw
     case rel => exact ⟨k + 1, by omega, by go_num, E.out, HB3.out⟩
     case measure => simp [intOf]; omega
    ·have E := Lib.hid (nodesErrs_hit HNO.out HX.out (by rw [HXE.out]; exact hz))
     have q : (nx != 0) = true := by simpa using hz
     clear hz
     go_wp2_with fail
     refine (T.out).mono ?_
     rintro e' w3 ⟨rfl, hb3⟩
     have HB3 := Lib.hid (below_step HBR.out hb3)
     clear hb3
     go_wp2_with fail
     go_ret
     exact ⟨by rw [E.out, HXE.out]; rfl, below_step HB.out HB3.out⟩
   ·obtain rfl : n = k := by omega
    have htk : args.take n = args := List.take_of_length_le (by rw [HLn.out]; exact Nat.le_refl _)
    have E := Lib.hid (show nodesErrs args = 0 by have := HNO.out; rwa [htk] at this)
    clear hb htk
    go_wp2_with fail
    go_ret
    exact ⟨by rw [E.out]; rfl, below_step HB.out HBR.out⟩
 ·have h5' : (!name.toList.isEmpty) = false := by rw [h5]; rfl
  generalize treeName name = tn at TN
  have d0 := CE.out w0 (Below.refl _ _) 0 _ rfl
  go_enter Tryz.func76, Tryz.ntmps76
  go_wp2_with (first | rw [HW0.out])
  refine (TA.out).mono ?_
  rintro e w1 ⟨rfl, hb1⟩
  have HB1 := Lib.hid hb1
  have d1 := CE.out w1 hb1 1 _ rfl
  clear hb1
  go_wp2_with fail
  refine (TN.out w1).mono ?_
  rintro e w2 ⟨rfl, hb2⟩
  have HB2 := Lib.hid (below_step HB1.out hb2)
  clear hb2 d1 d0
  have d0 := CE.out w2 HB2.out 0 _ rfl
  have d1 := CE.out w2 HB2.out 1 _ rfl
  have d2 := CE.out w2 HB2.out 2 _ rfl
  have d3 := CE.out w2 HB2.out 3 _ rfl
  have d4 := CE.out w2 HB2.out 4 _ rfl
  have d5 := CE.out w2 HB2.out 5 _ rfl
  go_wp2_with fail
  clear d0 d1 d2 d3 d4 d5
  go_loopw [2, 6] (fun _ i wr => ∃ k : Nat, k ≤ n ∧ i = .int .i64 k ∧ nodesErrs (args.take k) = 0 ∧ Below w0.heap.size w0 wr) (fun _ i _ => n - (intOf i).toNat)
  case atStart => exact ⟨0, by omega, rfl, rfl, HB2.out⟩
  case round =>
   obtain ⟨k, hk, rfl, hno, hb⟩ := hrel
   have HBR := Lib.hid hb
   have HNO := Lib.hid hno
   have d5 := CE.out wr hb 5 _ rfl
   clear hno
   by_cases hlk : k < n
   ·obtain ⟨g, o, x, (rfl : A = _), hg, hx, hsx, c0, c1, c2, c3, c4, c5, c6⟩ := (HE.out.keep hb).at_ (k := k) (by show k < args.length; rw [HLn.out]; exact hlk)
    have HX := Lib.hid (show args[k]? = some x from hx)
    have T := Lib.hid (IH.out x (HM.out x (List.mem_of_getElem? HX.out)) wr hsx)
    unfold exV at T
    clear hb hx hsx
    generalize hxe : nodesErr x = nx at T
    have HXE := Lib.hid hxe
    clear hxe
    by_cases hz : nx = 0
    ·have E := Lib.hid (nodesErrs_next HNO.out HX.out (HXE.out.trans hz))
     subst hz
     go_wp2_with fail
     refine (T.out).mono ?_
     rintro e' w3 ⟨rfl, hb3⟩
     have HB3 := Lib.hid (below_step HBR.out hb3)
     clear hb3
     go_wp2_with fail
     go_roundw
     case rel => exact ⟨k + 1, by omega, by go_num, E.out, HB3.out⟩
     case measure => simp [intOf]; omega
    ·have E := Lib.hid (nodesErrs_hit HNO.out HX.out (by rw [HXE.out]; exact hz))
     have q : (nx != 0) = true := by simpa using hz
     clear hz
     go_wp2_with fail
     refine (T.out).mono ?_
     rintro e' w3 ⟨rfl, hb3⟩
     have HB3 := Lib.hid (below_step HBR.out hb3)
     clear hb3
     go_wp2_with fail
     go_ret
     exact ⟨by rw [E.out, HXE.out]; rfl, below_step HB.out HB3.out⟩
   ·obtain rfl : n = k := by omega
    have htk : args.take n = args := List.take_of_length_le (by rw [HLn.out]; exact Nat.le_refl _)
    have E := Lib.hid (show nodesErrs args = 0 by have := HNO.out; rwa [htk] at this)
    clear hb htk
    go_wp2_with fail
    go_ret
    exact ⟨by rw [E.out]; rfl, below_step HB.out HBR.out⟩
theorem rnodes_any : ∀ m : Nat, RNodesAt m
 | 0 => fun e hm _ _ => by cases e; simp at hm
 | m + 1 => fun e hm w he => by
  have ih := rnodes_any m
  obtain ⟨op, name, v, A, c, args, pos⟩ := e
  obtain ⟨t, mm, s⟩ := v
  have hs : name.size ≤ maxLen := he.parts.2.2.1
  have hsz : s.size ≤ maxLen := he.parts.2.2.2.1.2.2
  have HN : nodesErr (.mk op name ⟨t, mm, s⟩ A c args pos) = if nodeErrOf op name ⟨t, mm, s⟩ args.length ≠ 0 then nodeErrOf op name ⟨t, mm, s⟩ args.length else nodesErrs args := by rw [nodesErr]
  show Calls Tryz.prog 76 #[.agg #[.string op, .string name, .int .i64 t, .int .i64 mm, .string s, .slice A args.length c, .int .i64 pos]] w (ValSays (nodesErr (.mk op name ⟨t, mm, s⟩ A c args pos)) w)
  have HK : ∀ K, nodeErrOf op name ⟨t, mm, s⟩ args.length = K → nodesErr (.mk op name ⟨t, mm, s⟩ A c args pos) = if K ≠ 0 then K else nodesErrs args := fun K h => by rw [HN, h]
  unfold nodeErrOf at HK
  by_cases hc : isCol op
  ·obtain rfl : op = ⟨#[99, 111, 108]⟩ := bytes_of hc
   have ha : arityOf ⟨#[99, 111, 108]⟩ = 0 := by decide
   have hv : ¬ isVal ⟨#[99, 111, 108]⟩ := by decide
   rw [ha] at HK
   cases hk : treeName name with
   | false => rw [HK 2 (by rw [hk, if_pos (Or.inr ⟨hc, rfl⟩)]), if_pos (by decide)]; exact rnode_col_name name A c pos w t mm s _ hs hk
   | true =>
    rw [hk, if_neg (by simp)] at HK
    by_cases h4 : (args.length : Int) ≠ 0
    ·rw [HK 3 (by rw [if_pos (Or.inl h4)]), if_pos (by decide)]; exact rnode_col_len name A c pos w t mm s _ hs hk (by simpa using h4)
    ·have h4' : ((args.length : Int) != 0) = false := by simpa using h4
     by_cases h5 : (⟨t, mm, s⟩ : Val) = noVal
     ·rw [HK 0 (by rw [if_neg (by rintro (h | ⟨h, _⟩ | ⟨_, h⟩); exact h4 h; exact h hc; exact h h5), if_pos hv]), if_neg (by simp)]
      injection h5 with a1 a2 a3
      subst a1 a2 a3
      exact rnodes_loop m ih ⟨#[99, 111, 108]⟩ name A c args pos hm w he (str_ne (s := ⟨#[99, 111, 108]⟩) (by decide)) (by rw [ha]; decide) (by rw [ha]; exact h4') (Or.inl ⟨str_is (s := ⟨#[99, 111, 108]⟩) (by decide), hk⟩)
     ·rw [HK 3 (by rw [if_pos (Or.inr (Or.inr ⟨hv, h5⟩))]), if_pos (by decide)]
      rcases val_ways h5 with h | ⟨h, h'⟩ | ⟨h, h', h''⟩
      ·exact rnode_col_t name A c pos w t mm s _ hs hk h4' h
      ·exact rnode_col_m name A c pos w t mm s _ hs hk h4' h h'
      ·exact rnode_col_s name A c pos w t mm s _ hs hk h4' h h' h''
  by_cases hv : isVal op
  ·obtain rfl : op = ⟨#[118, 97, 108]⟩ := bytes_of hv
   have ha : arityOf ⟨#[118, 97, 108]⟩ = 0 := by decide
   rw [ha, if_neg (by simp [hc])] at HK
   by_cases h4 : (args.length : Int) ≠ 0
   ·rw [HK 3 (by rw [if_pos (Or.inl h4)]), if_pos (by decide)]; exact rnode_val_len name A c pos w t mm s _ hs (by simpa using h4)
   ·have h4' : ((args.length : Int) != 0) = false := by simpa using h4
    have hargs : nodesErrs args = 0 := by
     rw [List.eq_nil_of_length_eq_zero (show args.length = 0 by omega)]; rfl
    by_cases h5 : name.data.toList = []
    ·have h5' := str_empty h5
     rw [if_neg (by rintro (h | ⟨_, h⟩ | ⟨h, _⟩); exact h4 h; exact h h5; exact h hv), if_neg (by simp [hv])] at HK
     by_cases h6 : vcheck ⟨t, mm, s⟩ = 0
     ·rw [if_neg (by simp [h6])] at HK
      by_cases h7 : t = 1
      ·by_cases h8 : mm < 0
       ·rw [HK 1 (by rw [if_pos ⟨h7, h8⟩]), if_pos (by decide)]
        subst h7
        exact rnode_val_neg name A c pos w mm s _ hs h4' h5' hsz h6 (by simpa using h8)
       ·rw [HK 0 (by rw [if_neg (fun h => h8 h.2)]), if_neg (by simp), hargs]
        subst h7
        exact rnode_val_ok1 name A c pos w mm s _ hs h4' h5' hsz h6 (by simpa using h8)
      ·rw [HK 0 (by rw [if_neg (fun h => h7 h.1)]), if_neg (by simp), hargs]; exact rnode_val_ok2 name A c pos w t mm s _ hs h4' h5' hsz h6 (by simpa using h7)
     ·rw [HK _ (by rw [if_pos h6]), if_pos h6]; exact rnode_val_bad name A c pos w t mm s _ hs h4' h5' hsz _ rfl (by simpa using h6)
    ·rw [HK 3 (by rw [if_pos (Or.inr (Or.inl ⟨hc, h5⟩))]), if_pos (by decide)]; exact rnode_val_name name A c pos w t mm s _ hs h4' (str_some h5)
  have e1 := str_ne hc
  have e2 := str_ne hv
  by_cases h3 : arityOf op < 0
  ·rw [HK 2 (by rw [if_pos (Or.inl h3)]), if_pos (by decide)]; exact rnode_other_none op name A c pos w t mm s _ hs e1 e2 (by simpa using h3)
  have h3' : decide (arityOf op < 0) = false := by simpa using h3
  rw [if_neg (by simp [h3, hc])] at HK
  by_cases h4 : (args.length : Int) ≠ arityOf op
  ·rw [HK 3 (by rw [if_pos (Or.inl h4)]), if_pos (by decide)]; exact rnode_other_len op name A c pos w t mm s _ hs e1 e2 h3' (by simpa using h4)
  have h4' : ((args.length : Int) != arityOf op) = false := by simpa using h4
  by_cases h5 : name.data.toList = []
  ·have h5' := str_empty h5
   by_cases h6 : (⟨t, mm, s⟩ : Val) = noVal
   ·rw [HK 0 (by rw [if_neg (by rintro (h | ⟨_, h⟩ | ⟨_, h⟩); exact h4 h; exact h h5; exact h h6), if_pos hv]), if_neg (by simp)]
    injection h6 with a1 a2 a3
    subst a1 a2 a3
    exact rnodes_loop m ih op name A c args pos hm w he e2 h3' h4' (Or.inr ⟨e1, h5'⟩)
   ·rw [HK 3 (by rw [if_pos (Or.inr (Or.inr ⟨hv, h6⟩))]), if_pos (by decide)]
    rcases val_ways h6 with h | ⟨h, h'⟩ | ⟨h, h', h''⟩
    ·exact rnode_other_t op name A c pos w t mm s _ hs e1 e2 h3' h4' h5' h
    ·exact rnode_other_m op name A c pos w t mm s _ hs e1 e2 h3' h4' h5' h h'
    ·exact rnode_other_s op name A c pos w t mm s _ hs e1 e2 h3' h4' h5' h h' h''
  ·rw [HK 3 (by rw [if_pos (Or.inr (Or.inl ⟨hc, h5⟩))]), if_pos (by decide)]; exact rnode_other_name op name A c pos w t mm s _ hs e1 e2 h3' h4' (str_some h5)
theorem small_full (e : Ex) : fullB e = !(decide (exSize e ≤ 200) && decide (exDeep e ≤ 30)) := by
 unfold fullB
 rw [below_deep, Bool.not_and]
 congr 1
 by_cases h : 200 < exSize e
 ·rw [decide_eq_true h, decide_eq_false (by omega)]; rfl
 ·rw [decide_eq_false h, decide_eq_true (by omega)]; rfl
set_option maxHeartbeats 1000000 in
set_option maxRecDepth 100000 in
theorem rsmall_any (e : Ex) (w : World) (he : SeesEx w e) (hN : exN e ≤ 1048576) : Calls Tryz.prog 61 #[exV e] w fun r w' => r = .returned (.bool (!fullB e)) ∧ Below w.heap.size w w' := by
 have HF := Lib.hid (show (!fullB e) = (decide (exSize e ≤ 200) && decide (exDeep e ≤ 30)) by rw [small_full, Bool.not_not])
 obtain ⟨op, name, v, A, c, args, pos⟩ := e
 have hb0 : Below w.heap.size w (w.alloc (.cells #[.string op, .string name, .int .i64 v.type, .int .i64 v.n, .string v.s, .slice A args.length c, .int .i64 pos] 26)) := belowNew _ _
 have HE := Lib.hid (he.keep hb0)
 have HB := Lib.hid hb0
 have CE := Lib.hid (fun (w1 : World) (hb : Below (w.alloc (.cells #[.string op, .string name, .int .i64 v.type, .int .i64 v.n, .string v.s, .slice A args.length c, .int .i64 pos] 26)).heap.size (w.alloc (.cells #[.string op, .string name, .int .i64 v.type, .int .i64 v.n, .string v.s, .slice A args.length c, .int .i64 pos] 26)) w1) (j : Nat) (u : Value) (hu : (#[.string op, .string name, .int .i64 v.type, .int .i64 v.n, .string v.s, .slice A args.length c, .int .i64 pos] : Array Value)[j]? = some u) => (hb.cell (p := ⟨w.heap.size, j, none⟩) (by simp)).trans (show (w.alloc (.cells #[.string op, .string name, .int .i64 v.type, .int .i64 v.n, .string v.s, .slice A args.length c, .int .i64 pos] 26)).cell? ⟨w.heap.size, j, none⟩ = some u by rw [cell_of_row _ _ _ _ _ _ (heap_alloc_new w _)]; exact hu))
 have TS0 : Calls Tryz.prog 132 #[.agg #[.string op, .string name, .int .i64 v.type, .int .i64 v.n, .string v.s, .slice A args.length c, .int .i64 pos]] (w.alloc (.cells #[.string op, .string name, .int .i64 v.type, .int .i64 v.n, .string v.s, .slice A args.length c, .int .i64 pos] 26)) _ := rsize_any _ (.mk op name v A c args pos) (Nat.le_refl _) _ HE.out
 have TS := Lib.hid TS0
 have TD := Lib.hid (fun w' (hb : Below (w.alloc (.cells #[.string op, .string name, .int .i64 v.type, .int .i64 v.n, .string v.s, .slice A args.length c, .int .i64 pos] 26)).heap.size (w.alloc (.cells #[.string op, .string name, .int .i64 v.type, .int .i64 v.n, .string v.s, .slice A args.length c, .int .i64 pos] 26)) w') => show Calls Tryz.prog 133 #[.agg #[.string op, .string name, .int .i64 v.type, .int .i64 v.n, .string v.s, .slice A args.length c, .int .i64 pos]] w' _ from rdeep_any _ (.mk op name v A c args pos) (Nat.le_refl _) hN w' (HE.out.keep hb))
 clear TS0 he hb0 hN
 generalize exSize (.mk op name v A c args pos) = sz at TS HF
 generalize exDeep (.mk op name v A c args pos) = dp at TD HF
 show Calls Tryz.prog 61 #[.agg #[.string op, .string name, .int .i64 v.type, .int .i64 v.n, .string v.s, .slice A args.length c, .int .i64 pos]] w _
 by_cases h1 : sz ≤ 200
 ·have q1 : decide (sz ≤ 200) = true := decide_eq_true h1
  have E := Lib.hid (show (!fullB (.mk op name v A c args pos)) = decide (dp ≤ 30) by rw [HF.out, q1]; rfl)
  clear h1
  go_enter Tryz.func61, Tryz.ntmps61
  go_wp2_with fail
  refine (TS.out).mono ?_
  rintro e' w1 ⟨rfl, hb1⟩
  have HB1 := Lib.hid hb1
  have T2 := Lib.hid (TD.out w1 hb1)
  have d0 := CE.out w1 hb1 0 _ rfl
  have d1 := CE.out w1 hb1 1 _ rfl
  have d2 := CE.out w1 hb1 2 _ rfl
  have d3 := CE.out w1 hb1 3 _ rfl
  have d4 := CE.out w1 hb1 4 _ rfl
  have d5 := CE.out w1 hb1 5 _ rfl
  have d6 := CE.out w1 hb1 6 _ rfl
  clear hb1
  by_cases h2 : dp ≤ 30
  ·have q2 : decide (dp ≤ 30) = true := decide_eq_true h2
   have q3 : decide ((dp : Int) ≤ 30) = true := decide_eq_true (by omega)
   have E2 := Lib.hid (E.out.trans q2)
   clear h2
   go_wp2_with fail
   refine (T2.out).mono ?_
   rintro e' w2 ⟨rfl, hb2⟩
   have HB2 := Lib.hid (below_step HB1.out hb2)
   clear hb2
   go_wp2_with fail
   go_ret
   exact ⟨by rw [E2.out]; rfl, below_step HB.out HB2.out⟩
  ·have q2 : decide (dp ≤ 30) = false := decide_eq_false h2
   have q3 : decide ((dp : Int) ≤ 30) = false := decide_eq_false (by omega)
   have E2 := Lib.hid (E.out.trans q2)
   clear h2
   go_wp2_with fail
   refine (T2.out).mono ?_
   rintro e' w2 ⟨rfl, hb2⟩
   have HB2 := Lib.hid (below_step HB1.out hb2)
   clear hb2
   go_wp2_with fail
   go_ret
   exact ⟨by rw [E2.out]; rfl, below_step HB.out HB2.out⟩
 ·have q1 : decide (sz ≤ 200) = false := decide_eq_false h1
  have E := Lib.hid (show (!fullB (.mk op name v A c args pos)) = false by rw [HF.out, q1]; rfl)
  clear h1
  go_enter Tryz.func61, Tryz.ntmps61
  go_wp2_with fail
  refine (TS.out).mono ?_
  rintro e' w1 ⟨rfl, hb1⟩
  have HB1 := Lib.hid hb1
  have T2 := Lib.hid (TD.out w1 hb1)
  have d0 := CE.out w1 hb1 0 _ rfl
  have d1 := CE.out w1 hb1 1 _ rfl
  have d2 := CE.out w1 hb1 2 _ rfl
  have d3 := CE.out w1 hb1 3 _ rfl
  have d4 := CE.out w1 hb1 4 _ rfl
  have d5 := CE.out w1 hb1 5 _ rfl
  have d6 := CE.out w1 hb1 6 _ rfl
  clear hb1
  go_wp2_with fail
  refine (T2.out).mono ?_
  rintro e' w2 ⟨rfl, hb2⟩
  have HB2 := Lib.hid (below_step HB1.out hb2)
  clear hb2
  go_wp2_with fail
  go_ret
  exact ⟨by rw [E.out]; rfl, below_step HB.out HB2.out⟩
set_option maxHeartbeats 1000000 in
set_option maxRecDepth 100000 in
theorem rcheck_any (e : Ex) (w : World) (he : SeesEx w e) (hN : exN e ≤ 1048576) : Calls Tryz.prog 22 #[exV e] w (ValSays (checkErr e) w) := by
 have HF := Lib.hid (show checkErr e = if fullB e = true then 4 else nodesErr e from rfl)
 obtain ⟨op, name, v, A, c, args, pos⟩ := e
 have hb0 : Below w.heap.size w (w.alloc (.cells #[.string op, .string name, .int .i64 v.type, .int .i64 v.n, .string v.s, .slice A args.length c, .int .i64 pos] 26)) := belowNew _ _
 have HE := Lib.hid (he.keep hb0)
 have HB := Lib.hid hb0
 have CE := Lib.hid (fun (w1 : World) (hb : Below (w.alloc (.cells #[.string op, .string name, .int .i64 v.type, .int .i64 v.n, .string v.s, .slice A args.length c, .int .i64 pos] 26)).heap.size (w.alloc (.cells #[.string op, .string name, .int .i64 v.type, .int .i64 v.n, .string v.s, .slice A args.length c, .int .i64 pos] 26)) w1) (j : Nat) (u : Value) (hu : (#[.string op, .string name, .int .i64 v.type, .int .i64 v.n, .string v.s, .slice A args.length c, .int .i64 pos] : Array Value)[j]? = some u) => (hb.cell (p := ⟨w.heap.size, j, none⟩) (by simp)).trans (show (w.alloc (.cells #[.string op, .string name, .int .i64 v.type, .int .i64 v.n, .string v.s, .slice A args.length c, .int .i64 pos] 26)).cell? ⟨w.heap.size, j, none⟩ = some u by rw [cell_of_row _ _ _ _ _ _ (heap_alloc_new w _)]; exact hu))
 have TS0 : Calls Tryz.prog 61 #[.agg #[.string op, .string name, .int .i64 v.type, .int .i64 v.n, .string v.s, .slice A args.length c, .int .i64 pos]] (w.alloc (.cells #[.string op, .string name, .int .i64 v.type, .int .i64 v.n, .string v.s, .slice A args.length c, .int .i64 pos] 26)) _ := rsmall_any (.mk op name v A c args pos) _ HE.out hN
 have TS := Lib.hid TS0
 have TD := Lib.hid (fun w' (hb : Below (w.alloc (.cells #[.string op, .string name, .int .i64 v.type, .int .i64 v.n, .string v.s, .slice A args.length c, .int .i64 pos] 26)).heap.size (w.alloc (.cells #[.string op, .string name, .int .i64 v.type, .int .i64 v.n, .string v.s, .slice A args.length c, .int .i64 pos] 26)) w') => show Calls Tryz.prog 76 #[.agg #[.string op, .string name, .int .i64 v.type, .int .i64 v.n, .string v.s, .slice A args.length c, .int .i64 pos]] w' _ from rnodes_any _ (.mk op name v A c args pos) (Nat.le_refl _) w' (HE.out.keep hb))
 clear TS0 he hb0 hN
 generalize nodesErr (.mk op name v A c args pos) = ne at TD HF
 generalize fullB (.mk op name v A c args pos) = fl at TS HF
 show Calls Tryz.prog 22 #[.agg #[.string op, .string name, .int .i64 v.type, .int .i64 v.n, .string v.s, .slice A args.length c, .int .i64 pos]] w _
 cases fl with
 | true =>
  have E := Lib.hid (show checkErr (.mk op name v A c args pos) = 4 by rw [HF.out, if_pos rfl])
  go_enter Tryz.func22, Tryz.ntmps22
  go_wp2_with fail
  refine (TS.out).mono ?_
  rintro e' w1 ⟨rfl, hb1⟩
  have HB1 := Lib.hid hb1
  clear hb1
  go_wp2_with fail
  go_ret
  exact ⟨by rw [E.out]; rfl, below_step HB.out HB1.out⟩
 | false =>
  have E := Lib.hid (show checkErr (.mk op name v A c args pos) = ne by rw [HF.out, if_neg (by decide)])
  go_enter Tryz.func22, Tryz.ntmps22
  go_wp2_with fail
  refine (TS.out).mono ?_
  rintro e' w1 ⟨rfl, hb1⟩
  have HB1 := Lib.hid hb1
  have T2 := Lib.hid (TD.out w1 hb1)
  have d0 := CE.out w1 hb1 0 _ rfl
  have d1 := CE.out w1 hb1 1 _ rfl
  have d2 := CE.out w1 hb1 2 _ rfl
  have d3 := CE.out w1 hb1 3 _ rfl
  have d4 := CE.out w1 hb1 4 _ rfl
  have d5 := CE.out w1 hb1 5 _ rfl
  have d6 := CE.out w1 hb1 6 _ rfl
  clear hb1
  go_wp2_with fail
  refine (T2.out).mono ?_
  rintro e' w2 ⟨rfl, hb2⟩
  have HB2 := Lib.hid (below_step HB1.out hb2)
  clear hb2
  go_wp2_with fail
  go_ret
  exact ⟨by rw [E.out]; rfl, below_step HB.out HB2.out⟩
end Go.Proofs.YtpbbkpfaphjdoaaGreatDoor
