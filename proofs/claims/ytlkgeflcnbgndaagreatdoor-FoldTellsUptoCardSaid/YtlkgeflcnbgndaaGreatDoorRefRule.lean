/- The document's answer, walked: signs, Arity, Val, Size, deep, Small of an expression. The document's answer, walked: Rule of an operation. -/
import Derived.Test.YtlkgeflcnbgndaaGreatDoorRefBase
import Derived.Test.YtlkgeflcnbgndaaGreatDoorKindOf
import Derived.Test.YtlkgeflcnbgndaaGreatDoorEvFn
namespace Go.Proofs.YtlkgeflcnbgndaaGreatDoor
open Go.ChangeShapes Go.WideShapes Go.ChangeAt Go.RowKit

theorem rsigns_any (k : Nat) (hk : k < 5) (w : World) :
    Calls Tryz.prog 85 #[.int .i64 k] w fun e w' => (∃ A c, e = .returned (.slice A (lvlB k).length c) ∧ Sees w' A (lvlB k).length c 1 (strCells (lvlB k))) ∧ Below w.heap.size w w' := by
  obtain rfl | rfl | rfl | rfl | rfl : k = 0 ∨ k = 1 ∨ k = 2 ∨ k = 3 ∨ k = 4 := by omega
  · go_enter Tryz.func85, Tryz.ntmps85
    go_wp2_with fail
    go_ret
    exact ⟨⟨some ⟨w.heap.size, 0, none⟩, 1, rfl, seesNew w (strCells (lvlB 0)) _ 1 1 rfl (by decide)⟩, belowNew _ _⟩
  · go_enter Tryz.func85, Tryz.ntmps85
    go_wp2_with fail
    go_ret
    exact ⟨⟨some ⟨w.heap.size, 0, none⟩, 1, rfl, seesNew w (strCells (lvlB 1)) _ 1 1 rfl (by decide)⟩, belowNew _ _⟩
  · go_enter Tryz.func85, Tryz.ntmps85
    go_wp2_with fail
    go_ret
    exact ⟨⟨some ⟨w.heap.size, 0, none⟩, 6, rfl, seesNew w (strCells (lvlB 2)) _ 6 1 rfl (by decide)⟩, belowNew _ _⟩
  · go_enter Tryz.func85, Tryz.ntmps85
    go_wp2_with fail
    go_ret
    exact ⟨⟨some ⟨w.heap.size, 0, none⟩, 2, rfl, seesNew w (strCells (lvlB 3)) _ 2 1 rfl (by decide)⟩, belowNew _ _⟩
  · go_enter Tryz.func85, Tryz.ntmps85
    go_wp2_with fail
    go_ret
    exact ⟨⟨some ⟨w.heap.size, 0, none⟩, 3, rfl, seesNew w (strCells (lvlB 4)) _ 3 1 rfl (by decide)⟩, belowNew _ _⟩
theorem rarity_col (w : World) : Calls Tryz.prog 62 #[.string ⟨#[99, 111, 108]⟩] w fun e w' => e = .returned (.int .i64 0) ∧ Below w.heap.size w w' := by
  go_enter Tryz.func62, Tryz.ntmps62
  go_wp2_with fail
  go_ret
  exact ⟨rfl, Below.refl _ _⟩
theorem rarity_val (w : World) : Calls Tryz.prog 62 #[.string ⟨#[118, 97, 108]⟩] w fun e w' => e = .returned (.int .i64 0) ∧ Below w.heap.size w w' := by
  go_enter Tryz.func62, Tryz.ntmps62
  go_wp2_with fail
  go_ret
  exact ⟨rfl, Below.refl _ _⟩
theorem rarity_not (w : World) : Calls Tryz.prog 62 #[.string ⟨#[110, 111, 116]⟩] w fun e w' => e = .returned (.int .i64 1) ∧ Below w.heap.size w w' := by
  go_enter Tryz.func62, Tryz.ntmps62
  go_wp2_with fail
  go_ret
  exact ⟨rfl, Below.refl _ _⟩
theorem rarity_neg (w : World) : Calls Tryz.prog 62 #[.string ⟨#[110, 101, 103]⟩] w fun e w' => e = .returned (.int .i64 1) ∧ Below w.heap.size w w' := by
  go_enter Tryz.func62, Tryz.ntmps62
  go_wp2_with fail
  go_ret
  exact ⟨rfl, Below.refl _ _⟩
theorem rarity_len (w : World) : Calls Tryz.prog 62 #[.string ⟨#[108, 101, 110]⟩] w fun e w' => e = .returned (.int .i64 1) ∧ Below w.heap.size w w' := by
  go_enter Tryz.func62, Tryz.ntmps62
  go_wp2_with fail
  go_ret
  exact ⟨rfl, Below.refl _ _⟩
theorem rarity_if (w : World) : Calls Tryz.prog 62 #[.string ⟨#[105, 102]⟩] w fun e w' => e = .returned (.int .i64 3) ∧ Below w.heap.size w w' := by
  go_enter Tryz.func62, Tryz.ntmps62
  go_wp2_with fail
  go_ret
  exact ⟨rfl, Below.refl _ _⟩

set_option maxHeartbeats 2000000 in
set_option maxRecDepth 100000 in
theorem rarity_sign (s : ByteArray) (w : World)
    (h1 : s.data.toList ≠ [99, 111, 108]) (h2 : s.data.toList ≠ [118, 97, 108]) (h3 : s.data.toList ≠ [110, 111, 116]) (h4 : s.data.toList ≠ [110, 101, 103]) (h5 : s.data.toList ≠ [108, 101, 110]) (h6 : s.data.toList ≠ [105, 102]) :
    Calls Tryz.prog 62 #[.string s] w fun e w' => e = .returned (.int .i64 (signAr s)) ∧ Below w.heap.size w w' := by
  have e1 := str_ne h1
  have e2 := str_ne h2
  have e3 := str_ne h3
  have e4 := str_ne h4
  have e5 := str_ne h5
  have e6 := str_ne h6
  clear h1 h2 h3 h4 h5 h6
  go_enter Tryz.func62, Tryz.ntmps62
  go_wp2_with fail
  go_loopw [2, 3] (fun _ i wr => ∃ k : Nat, k ≤ 5 ∧ i = .int .i64 k ∧ (∀ j, j < k → Lib.containsS (lvlB j) s = false) ∧ Below w.heap.size w wr) (fun _ i _ => 5 - (intOf i).toNat)
  case atStart => exact ⟨0, by omega, rfl, (fun j hj => by omega), Below.refl _ _⟩
  case round =>
    obtain ⟨k, hk, rfl, hno, hb⟩ := hrel
    have HN := Lib.hid hno
    have HB := Lib.hid hb
    clear hno hb
    by_cases hk5 : k < 5
    · have T := Lib.hid (rsigns_any k hk5 wr)
      go_wp2_with fail
      refine (T.out).mono ?_
      rintro e w1 ⟨⟨A, c, rfl, hs⟩, hb1⟩
      have HS := Lib.hid hs
      have HB1 := Lib.hid (below_step HB.out hb1)
      have hcap := hs.2.1
      have hmax := hs.2.2.1
      unfold maxLen at hmax
      have HD := Lib.hid (show (lvlB k).length = (lvlB k).length from rfl)
      generalize hn : (lvlB k).length = n at hs HS hcap ⊢
      have HLn := Lib.hid hn
      clear hs hb1 hn
      go_wp2_with fail
      go_loop [2, 5] (fun _ i => ∃ m : Nat, m ≤ n ∧ i = .int .i64 m ∧ ∀ x ∈ (lvlB k).take m, x ≠ s) (fun _ i => n - (intOf i).toNat)
      case atStart => exact ⟨0, by omega, rfl, by simp⟩
      case round =>
        obtain ⟨m, hm, rfl, hno⟩ := hrel
        have HM := Lib.hid hno
        clear hno
        by_cases hlm : m < n
        · obtain ⟨g, o, z, rfl, hz, c1⟩ := strs_at HS.out hlm
          have HZ := Lib.hid hz
          clear hz
          by_cases hzs : z = s
          · subst hzs
            have E := Lib.hid (show signAr z = 2 by unfold signAr; rw [isSign_hit (contains_hit HZ.out) hk5]; rfl)
            have q1 : (z.toList == z.toList) = true := by simp
            go_wp2_with fail
            go_ret
            exact ⟨by rw [E.out]; rfl, HB1.out⟩
          · have q1 : (z.toList == s.toList) = false := by rw [str_beq]; simpa using hzs
            have E := Lib.hid (ne_next HM.out HZ.out hzs)
            clear hzs
            go_wp2_with fail
            go_round
            case rel => exact ⟨m + 1, by omega, by go_num, E.out⟩
            case measure => simp [intOf]; omega
        · have E := Lib.hid (no_next HN.out (contains_none (zs := lvlB k) (s := s) (by have := HM.out; rwa [List.take_of_length_le (by rw [HLn.out]; omega)] at this)))
          go_wp2_with fail
          go_roundw
          case rel => exact ⟨k + 1, by omega, by go_num, E.out, HB1.out⟩
          case measure => simp [intOf]; omega
    · have E := Lib.hid (show signAr s = -1 by unfold signAr; rw [isSign_take HN.out (by omega)]; rfl)
      obtain rfl : k = 5 := by omega
      go_wp2_with fail
      go_ret
      exact ⟨by rw [E.out]; rfl, HB.out⟩
/-- Arity, at any text. -/
theorem rarity_any (s : ByteArray) (w : World) : Calls Tryz.prog 62 #[.string s] w fun e w' => e = .returned (.int .i64 (arityOf s)) ∧ Below w.heap.size w w' := by
  unfold arityOf
  by_cases h1 : s.data.toList = [99, 111, 108]
  · rw [if_pos (Or.inl h1), bytes_of h1]; exact rarity_col w
  by_cases h2 : s.data.toList = [118, 97, 108]
  · rw [if_pos (Or.inr h2), bytes_of h2]; exact rarity_val w
  rw [if_neg (fun h => h.elim h1 h2)]
  by_cases h3 : s.data.toList = [110, 111, 116]
  · rw [if_pos (Or.inl h3), bytes_of h3]; exact rarity_not w
  by_cases h4 : s.data.toList = [110, 101, 103]
  · rw [if_pos (Or.inr (Or.inl h4)), bytes_of h4]; exact rarity_neg w
  by_cases h5 : s.data.toList = [108, 101, 110]
  · rw [if_pos (Or.inr (Or.inr h5)), bytes_of h5]; exact rarity_len w
  rw [if_neg (fun h => h.elim h3 (fun h => h.elim h4 h5))]
  by_cases h6 : s.data.toList = [105, 102]
  · rw [if_pos h6, bytes_of h6]; exact rarity_if w
  rw [if_neg h6]
  exact rarity_sign s w h1 h2 h3 h4 h5 h6

mutual
def exDeep : Ex → Nat
  | .mk _ _ _ _ _ l _ => exDeeps 0 l + 1
def exDeeps : Nat → List Ex → Nat
  | n, [] => n
  | n, a :: l => exDeeps (if n < exDeep a then exDeep a else n) l
end
theorem exDeep_eq (e : Ex) : exDeep e = exDeeps 0 e.args + 1 := by cases e; rw [exDeep]; rfl
theorem exDeeps_snoc : ∀ (l : List Ex) (n : Nat) (a : Ex), exDeeps n (l ++ [a]) = if exDeeps n l < exDeep a then exDeep a else exDeeps n l
  | [], n, a => by rw [List.nil_append, exDeeps, exDeeps, exDeeps]
  | x :: l, n, a => by rw [List.cons_append, exDeeps, exDeeps]; exact exDeeps_snoc l _ a
theorem exDeeps_take {l : List Ex} {k : Nat} {a : Ex} (h : l[k]? = some a) : exDeeps 0 (l.take (k + 1)) = if exDeeps 0 (l.take k) < exDeep a then exDeep a else exDeeps 0 (l.take k) := by
  rw [List.take_add_one, h]; exact exDeeps_snoc _ _ _
theorem exDeeps_le : ∀ (l : List Ex) (n B : Nat), n ≤ B → (∀ a ∈ l, exDeep a ≤ B) → exDeeps n l ≤ B
  | [], n, B, hn, _ => by rw [exDeeps]; exact hn
  | a :: l, n, B, hn, h => by
    rw [exDeeps]
    refine exDeeps_le l _ B ?_ fun x hx => h x (List.mem_cons_of_mem _ hx)
    split
    · exact h a List.mem_cons_self
    · exact hn
theorem exDeeps_ge : ∀ (l : List Ex) (n : Nat), n ≤ exDeeps n l ∧ ∀ a ∈ l, exDeep a ≤ exDeeps n l
  | [], n => by rw [exDeeps]; exact ⟨Nat.le_refl _, fun a h => by cases h⟩
  | a :: l, n => by
    rw [exDeeps]
    by_cases hlt : n < exDeep a
    · rw [if_pos hlt]
      obtain ⟨h1, h2⟩ := exDeeps_ge l (exDeep a)
      refine ⟨by omega, fun x hx => ?_⟩
      rcases List.mem_cons.1 hx with rfl | hx
      · exact h1
      · exact h2 x hx
    · rw [if_neg hlt]
      obtain ⟨h1, h2⟩ := exDeeps_ge l n
      refine ⟨h1, fun x hx => ?_⟩
      rcases List.mem_cons.1 hx with rfl | hx
      · omega
      · exact h2 x hx
theorem deep_le_n : ∀ (m : Nat) (e : Ex), SizeOf.sizeOf e ≤ m → exDeep e ≤ exN e
  | 0, e, hm => by cases e; simp at hm
  | m + 1, .mk op name v A c args pos, hm => by
    rw [exDeep_eq, exN_eq]
    have := exDeeps_le args 0 (exNs args) (Nat.zero_le _) fun a ha => Nat.le_trans (deep_le_n m a (by have := ex_lt (e := .mk op name v A c args pos) ha; omega)) (exNs_mem ha)
    show exDeeps 0 args + 1 ≤ exNs args + 1
    omega
theorem below_deep : ∀ (m : Nat) (e : Ex), exBelow m e = decide (exDeep e ≤ m)
  | 0, e => by rw [exBelow, exDeep_eq]; simp
  | m + 1, e => by
    rw [exBelow_all, exDeep_eq]
    by_cases h : exDeeps 0 e.args + 1 ≤ m + 1
    · rw [decide_eq_true h]
      refine List.all_eq_true.2 fun a ha => ?_
      rw [below_deep m a]
      have := (exDeeps_ge e.args 0).2 a ha
      exact decide_eq_true (by omega)
    · rw [decide_eq_false h]
      cases hb : e.args.all (exBelow m) with
      | false => rfl
      | true =>
        exfalso
        have h2 := exDeeps_le e.args 0 m (Nat.zero_le _) fun a ha => by
          have := List.all_eq_true.1 hb a ha
          rw [below_deep m a] at this
          simpa using this
        omega

def SizeAt (m : Nat) : Prop := ∀ e : Ex, SizeOf.sizeOf e ≤ m → ∀ w : World, SeesEx w e → Calls Tryz.prog 24 #[exV e] w (ValSays (exSize e) w)
def DeepAt (m : Nat) : Prop := ∀ e : Ex, SizeOf.sizeOf e ≤ m → exN e ≤ 1048576 → ∀ w : World, SeesEx w e → Calls Tryz.prog 61 #[exV e] w (ValSays (exDeep e) w)
set_option maxHeartbeats 1000000 in
set_option maxRecDepth 100000 in
theorem rsize_step (m : Nat) (ih : SizeAt m) (op name : ByteArray) (v : Val) (A : Option Addr) (c : Nat) (args : List Ex) (pos : Int) (hm : SizeOf.sizeOf (Ex.mk op name v A c args pos) ≤ m + 1) (w : World) (he : SeesEx w (.mk op name v A c args pos)) :
    Calls Tryz.prog 24 #[exV (.mk op name v A c args pos)] w (ValSays (exSize (.mk op name v A c args pos)) w) := by
  have IH := Lib.hid ih
  have HM := Lib.hid (fun a (ha : a ∈ args) => show SizeOf.sizeOf a ≤ m by have := ex_lt (e := .mk op name v A c args pos) ha; omega)
  have hb0 : Below w.heap.size w (w.alloc (.cells #[.string op, .string name, .int .i64 v.type, .int .i64 v.n, .string v.s, .slice A args.length c, .int .i64 pos] 26)) := belowNew _ _
  have HE := Lib.hid (he.keep hb0)
  have HB := Lib.hid hb0
  have hcap : args.length ≤ c := he.parts.1.2.1
  have hmax : c ≤ maxLen := he.parts.1.2.2.1
  unfold maxLen at hmax
  have HS := Lib.hid (exSize_eq (.mk op name v A c args pos))
  have CE := Lib.hid (fun (w1 : World) (hb : Below (w.alloc (.cells #[.string op, .string name, .int .i64 v.type, .int .i64 v.n, .string v.s, .slice A args.length c, .int .i64 pos] 26)).heap.size (w.alloc (.cells #[.string op, .string name, .int .i64 v.type, .int .i64 v.n, .string v.s, .slice A args.length c, .int .i64 pos] 26)) w1) => (hb.cell (p := ⟨w.heap.size, 5, none⟩) (by simp)).trans (show _ = some (.slice A args.length c) by simp))
  show Calls Tryz.prog 24 #[.agg #[.string op, .string name, .int .i64 v.type, .int .i64 v.n, .string v.s, .slice A args.length c, .int .i64 pos]] w _
  generalize hn : args.length = n at hcap HE HB CE ⊢
  have HLn := Lib.hid hn
  clear hm he hb0 hn ih
  go_enter Tryz.func24, Tryz.ntmps24
  go_wp2_with fail
  generalize w.alloc (.cells #[.string op, .string name, .int .i64 v.type, .int .i64 v.n, .string v.s, .slice A n c, .int .i64 pos] 26) = w0 at HE HB CE ⊢
  go_loopw [3, 4] (fun s i wr => ∃ k : Nat, k ≤ n ∧ i = .int .i64 k ∧ s = .int .i64 (exSizes 1 (args.take k)) ∧ Below w0.heap.size w0 wr) (fun _ i _ => n - (intOf i).toNat)
  case atStart => exact ⟨0, by omega, rfl, rfl, Below.refl _ _⟩
  case round =>
    obtain ⟨k, hk, rfl, rfl, hb⟩ := hrel
    have HBR := Lib.hid hb
    have d5 := CE.out wr hb
    by_cases hlk : k < n
    · obtain ⟨g, o, x, (rfl : A = _), hg, hx, hsx, c0, c1, c2, c3, c4, c5, c6⟩ := (HE.out.keep hb).at_ (k := k) (by show k < args.length; rw [HLn.out]; exact hlk)
      have HX := Lib.hid (show args[k]? = some x from hx)
      have T := Lib.hid (IH.out x (HM.out x (List.mem_of_getElem? HX.out)) wr hsx)
      unfold exV at T
      clear hb hx hsx
      have E := Lib.hid (exSizes_take (n := 1) HX.out)
      go_wp2_with fail
      refine (T.out).mono ?_
      rintro e' w1 ⟨rfl, hb1⟩
      have HB1 := Lib.hid (below_step HBR.out hb1)
      clear hb1
      go_wp2_with fail
      go_roundw
      case rel => exact ⟨k + 1, by omega, by go_num, by rw [E.out], HB1.out⟩
      case measure => simp [intOf]; omega
    · obtain rfl : n = k := by omega
      have htk : args.take n = args := List.take_of_length_le (by rw [HLn.out]; exact Nat.le_refl _)
      rw [htk]
      clear hb htk
      go_wp2_with fail
      go_ret
      exact ⟨by rw [HS.out]; rfl, below_step HB.out HBR.out⟩
theorem rsize_any : ∀ m : Nat, SizeAt m
  | 0 => fun e hm _ _ => by cases e; simp at hm
  | m + 1 => fun e hm w he => by
    obtain ⟨op, name, v, A, c, args, pos⟩ := e
    exact rsize_step m (rsize_any m) op name v A c args pos hm w he
set_option maxHeartbeats 1000000 in
set_option maxRecDepth 100000 in
theorem rdeep_step (m : Nat) (ih : DeepAt m) (op name : ByteArray) (v : Val) (A : Option Addr) (c : Nat) (args : List Ex) (pos : Int) (hm : SizeOf.sizeOf (Ex.mk op name v A c args pos) ≤ m + 1) (hN : exN (Ex.mk op name v A c args pos) ≤ 1048576) (w : World) (he : SeesEx w (.mk op name v A c args pos)) :
    Calls Tryz.prog 61 #[exV (.mk op name v A c args pos)] w (ValSays (exDeep (.mk op name v A c args pos)) w) := by
  have IH := Lib.hid ih
  have HM := Lib.hid (fun a (ha : a ∈ args) => show SizeOf.sizeOf a ≤ m by have := ex_lt (e := .mk op name v A c args pos) ha; omega)
  have hb0 : Below w.heap.size w (w.alloc (.cells #[.string op, .string name, .int .i64 v.type, .int .i64 v.n, .string v.s, .slice A args.length c, .int .i64 pos] 26)) := belowNew _ _
  have HE := Lib.hid (he.keep hb0)
  have HB := Lib.hid hb0
  have hcap : args.length ≤ c := he.parts.1.2.1
  have hmax : c ≤ maxLen := he.parts.1.2.2.1
  unfold maxLen at hmax
  have HS := Lib.hid (exDeep_eq (.mk op name v A c args pos))
  have HNN := Lib.hid (show ∀ a ∈ args, exN a ≤ 1048576 from fun a ha => by have h1 := exNs_mem ha; rw [exN] at hN; omega)
  have HDB := Lib.hid (show exDeeps 0 args ≤ 1048576 from exDeeps_le args 0 1048576 (Nat.zero_le _) fun a ha => Nat.le_trans (deep_le_n _ a (Nat.le_refl _)) (HNN.out a ha))
  replace HS := Lib.hid (show exDeep (.mk op name v A c args pos) = exDeeps 0 args + 1 from HS.out)
  have CE := Lib.hid (fun (w1 : World) (hb : Below (w.alloc (.cells #[.string op, .string name, .int .i64 v.type, .int .i64 v.n, .string v.s, .slice A args.length c, .int .i64 pos] 26)).heap.size (w.alloc (.cells #[.string op, .string name, .int .i64 v.type, .int .i64 v.n, .string v.s, .slice A args.length c, .int .i64 pos] 26)) w1) => (hb.cell (p := ⟨w.heap.size, 5, none⟩) (by simp)).trans (show _ = some (.slice A args.length c) by simp))
  show Calls Tryz.prog 61 #[.agg #[.string op, .string name, .int .i64 v.type, .int .i64 v.n, .string v.s, .slice A args.length c, .int .i64 pos]] w _
  generalize hn : args.length = n at hcap HE HB CE ⊢
  have HLn := Lib.hid hn
  clear hm he hb0 hn ih hN
  go_enter Tryz.func61, Tryz.ntmps61
  go_wp2_with fail
  generalize w.alloc (.cells #[.string op, .string name, .int .i64 v.type, .int .i64 v.n, .string v.s, .slice A n c, .int .i64 pos] 26) = w0 at HE HB CE ⊢
  go_loopw [3, 4] (fun s i wr => ∃ k : Nat, k ≤ n ∧ i = .int .i64 k ∧ s = .int .i64 (exDeeps 0 (args.take k) : Nat) ∧ Below w0.heap.size w0 wr) (fun _ i _ => n - (intOf i).toNat)
  case atStart => exact ⟨0, by omega, rfl, rfl, Below.refl _ _⟩
  case round =>
    obtain ⟨k, hk, rfl, rfl, hb⟩ := hrel
    have HBR := Lib.hid hb
    have d5 := CE.out wr hb
    by_cases hlk : k < n
    · obtain ⟨g, o, x, (rfl : A = _), hg, hx, hsx, c0, c1, c2, c3, c4, c5, c6⟩ := (HE.out.keep hb).at_ (k := k) (by show k < args.length; rw [HLn.out]; exact hlk)
      have HX := Lib.hid (show args[k]? = some x from hx)
      have T := Lib.hid (IH.out x (HM.out x (List.mem_of_getElem? HX.out)) (HNN.out x (List.mem_of_getElem? HX.out)) wr hsx)
      unfold exV at T
      clear hb hx hsx
      have E := Lib.hid (exDeeps_take HX.out)
      generalize exDeep x = dx at T E
      generalize exDeeps 0 (args.take k) = dk at E ⊢
      by_cases hd : dk < dx
      · have q : decide (dk < dx) = true := decide_eq_true hd
        have E2 := Lib.hid (show exDeeps 0 (args.take (k + 1)) = dx by rw [E.out, if_pos hd])
        clear hd
        go_wp2_with fail
        refine (T.out).mono ?_
        rintro e' w1 ⟨rfl, hb1⟩
        have HB1 := Lib.hid (below_step HBR.out hb1)
        clear hb1
        go_wp2_with fail
        go_roundw
        case rel => exact ⟨k + 1, by omega, by go_num, by rw [E2.out], HB1.out⟩
        case measure => simp [intOf]; omega
      · have q : decide (dk < dx) = false := decide_eq_false hd
        have E2 := Lib.hid (show exDeeps 0 (args.take (k + 1)) = dk by rw [E.out, if_neg hd])
        clear hd
        go_wp2_with fail
        refine (T.out).mono ?_
        rintro e' w1 ⟨rfl, hb1⟩
        have HB1 := Lib.hid (below_step HBR.out hb1)
        clear hb1
        go_wp2_with fail
        go_roundw
        case rel => exact ⟨k + 1, by omega, by go_num, by rw [E2.out], HB1.out⟩
        case measure => simp [intOf]; omega
    · obtain rfl : n = k := by omega
      have htk : args.take n = args := List.take_of_length_le (by rw [HLn.out]; exact Nat.le_refl _)
      rw [htk]
      clear hb htk
      have hDB := HDB.out
      generalize exDeeps 0 args = dd at hDB HS ⊢
      go_wp2_with fail
      go_ret
      exact ⟨by rw [HS.out]; go_num, below_step HB.out HBR.out⟩
theorem rdeep_any : ∀ m : Nat, DeepAt m
  | 0 => fun e hm _ _ _ => by cases e; simp at hm
  | m + 1 => fun e hm hN w he => by
    obtain ⟨op, name, v, A, c, args, pos⟩ := e
    exact rdeep_step m (rdeep_any m) op name v A c args pos hm hN w he
end Go.Proofs.YtlkgeflcnbgndaaGreatDoor
namespace Go.Proofs.YtlkgeflcnbgndaaGreatDoor
open Go.ChangeShapes Go.WideShapes Go.ChangeAt Go.RowKit

def TwoSays (t k : Int) (w : World) (e : Ending) (w' : World) : Prop := e = .returned (.tuple #[.int .i64 t, .int .i64 k]) ∧ Below w.heap.size w w'
theorem isOp_arity (s : ByteArray) : isOpB s = decide (1 ≤ arityOf s) := by
  by_cases h : isOpB s = true
  · rw [h]
    rcases ops_cases h with rfl | rfl | rfl | rfl | rfl | rfl | rfl | rfl | rfl | rfl | rfl | rfl | rfl | rfl | rfl | rfl | rfl <;> decide
  · have h' : isOpB s = false := by simpa using h
    rw [h']
    refine (decide_eq_false fun ha => ?_).symm
    have hno : ∀ x ∈ opsB, x ≠ s := fun x hx e => h ((Lib.containsS_iff opsB s).2 (e ▸ hx))
    unfold arityOf at ha
    split at ha
    · omega
    · split at ha
      · rename_i h1
        rcases h1 with h1 | h1 | h1
        · exact hno ⟨#[110, 111, 116]⟩ ((Lib.containsS_iff opsB _).1 (by decide)) (bytes_of h1).symm
        · exact hno ⟨#[110, 101, 103]⟩ ((Lib.containsS_iff opsB _).1 (by decide)) (bytes_of h1).symm
        · exact hno ⟨#[108, 101, 110]⟩ ((Lib.containsS_iff opsB _).1 (by decide)) (bytes_of h1).symm
      · split at ha
        · rename_i h1
          exact hno ⟨#[105, 102]⟩ ((Lib.containsS_iff opsB _).1 (by decide)) (bytes_of h1).symm
        · unfold signAr at ha
          split at ha
          · rename_i h1
            unfold isSign at h1
            rw [List.any_eq_true] at h1
            obtain ⟨j, hj, hc⟩ := h1
            have hm := (Lib.containsS_iff (lvlB j) s).1 hc
            have hj5 := List.mem_range.1 hj
            have hsub : ∀ l ∈ lvlL j, l ∈ opsL := by
              obtain rfl | rfl | rfl | rfl | rfl : j = 0 ∨ j = 1 ∨ j = 2 ∨ j = 3 ∨ j = 4 := by omega
              all_goals decide
            obtain ⟨l, hl, hls⟩ := List.mem_map.1 hm
            exact hno s (List.mem_map.2 ⟨l, hsub l hl, hls⟩) rfl
          · omega
theorem allThe_of {ts : List Int} {t : Int} (h : ∀ x ∈ ts, x = t) : allThe ts t = true := by
  unfold allThe
  rw [Bool.not_eq_true', List.any_eq_false]
  intro x hx
  rw [h x hx]
  simp [notThe]
theorem allThe_not {ts : List Int} {t x : Int} (hx : x ∈ ts) (h : x ≠ t) : allThe ts t = false := by
  unfold allThe
  rw [Bool.not_eq_false', List.any_eq_true]
  exact ⟨x, hx, by simpa [notThe] using h⟩
theorem eq_next {ts : List Int} {t x : Int} {k : Nat} (h : ∀ y ∈ ts.take k, y = t) (hk : ts[k]? = some x) (hx : x = t) : ∀ y ∈ ts.take (k + 1), y = t := by
  intro y hy
  rw [List.take_add_one, hk] at hy
  rcases List.mem_append.1 hy with hy | hy
  · exact h y hy
  · simp at hy; subst hy; exact hx
theorem two_fits {ts : List Int} (hl : ts.length = 2) : fitsGrp 1 ts = allThe ts (ts.getD 0 0) := by
  match ts, hl with
  | [x, y], _ =>
    show (x == y) = allThe [x, y] x
    by_cases h : x = y
    · subst h; rw [allThe_of (by intro z hz; simp at hz; rcases hz with rfl | rfl <;> rfl)]; simp
    · rw [allThe_not (x := y) (by simp) (fun e => h e.symm)]; simpa using h

set_option maxHeartbeats 8000000 in
set_option maxRecDepth 100000 in
theorem rrule_any (s : ByteArray) (ts : List Int) (A : Option Addr) (n c : Nat) (w : World) (hl : Sees w A n c 1 (intCells ts)) :
    Calls Tryz.prog 51 #[.string s, .slice A n c] w (TwoSays (ruleTy s ts) (ruleErr s ts) w) := by
  have HL := Lib.hid hl
  have hcap := hl.2.1
  have hmax := hl.2.2.1
  unfold maxLen at hmax
  have HLn := Lib.hid (intCells_len hl)
  have TA := Lib.hid (rarity_any s w)
  have IO := Lib.hid (isOp_arity s)
  have RT := Lib.hid (show ruleTy s ts = if ruleErr s ts = 0 then typeGrp (grp s) ts else 0 from rfl)
  have RE := Lib.hid (show ruleErr s ts = if isOpB s = false ∨ ts.any noType = true then 1 else if (ts.length : Int) ≠ arityOf s then 3 else if fitsGrp (grp s) ts = true then 0 else 8 from rfl)
  clear hl
  generalize hAr : arityOf s = ar at TA IO RE
  have HAr := Lib.hid hAr
  clear hAr
  by_cases ha : ar < 1
  · have q : decide (ar < 1) = true := decide_eq_true ha
    have E := Lib.hid (show ruleErr s ts = 1 by rw [RE.out, if_pos (Or.inl (by rw [IO.out]; exact decide_eq_false (by omega)))])
    have E2 := Lib.hid (show ruleTy s ts = 0 by rw [RT.out, E.out, if_neg (by decide)])
    clear ha
    go_enter Tryz.func51, Tryz.ntmps51
    go_wp2_with fail
    refine (TA.out).mono ?_
    rintro e w1 ⟨rfl, hb1⟩
    go_wp2_with fail
    go_ret2
    exact ⟨by rw [E.out, E2.out]; rfl, hb1⟩
  have q : decide (ar < 1) = false := decide_eq_false ha
  have HO := Lib.hid (show isOpB s = true by rw [IO.out]; exact decide_eq_true (by omega))
  clear ha
  go_enter Tryz.func51, Tryz.ntmps51
  go_wp2_with fail
  refine (TA.out).mono ?_
  rintro e w1 ⟨rfl, hb1⟩
  have HB := Lib.hid hb1
  have HL1 := Lib.hid (HL.out.keep hb1)
  clear hb1
  go_wp2_with fail
  go_loop [4, 7] (fun _ i => ∃ k : Nat, k ≤ n ∧ i = .int .i64 k ∧ ∀ x ∈ ts.take k, noType x = false) (fun _ i => n - (intOf i).toNat)
  case atStart => exact ⟨0, by omega, rfl, by simp⟩
  case round =>
    obtain ⟨k, hk, rfl, hno⟩ := hrel
    have HN := Lib.hid hno
    clear hno
    by_cases hlk : k < n
    · obtain ⟨g, o, x, rfl, hx, c1⟩ := ints_at HL1.out hlk
      have HX := Lib.hid hx
      clear hx
      by_cases hn : noType x = true
      · have E := Lib.hid (show ruleErr s ts = 1 by rw [RE.out, if_pos (Or.inr (List.any_eq_true.2 ⟨x, List.mem_of_getElem? HX.out, hn⟩))])
        have E2 := Lib.hid (show ruleTy s ts = 0 by rw [RT.out, E.out, if_neg (by decide)])
        unfold noType at hn
        by_cases h1 : x < 1
        · have q1 : decide (x < 1) = true := decide_eq_true h1
          clear hn h1
          go_wp2_with fail
          go_ret2
          exact ⟨by rw [E.out, E2.out]; rfl, HB.out⟩
        · have q1 : decide (x < 1) = false := decide_eq_false h1
          have q2 : decide (3 < x) = true := by
            simp at hn
            exact decide_eq_true (by omega)
          clear hn h1
          go_wp2_with fail
          go_ret2
          exact ⟨by rw [E.out, E2.out]; rfl, HB.out⟩
      · have E := Lib.hid (take_next HN.out HX.out (show noType x = false by simpa using hn))
        unfold noType at hn
        simp at hn
        have q1 : decide (x < 1) = false := decide_eq_false (by omega)
        have q2 : decide (3 < x) = false := decide_eq_false (by omega)
        clear hn
        go_wp2_with fail
        go_round
        case rel => exact ⟨k + 1, by omega, by go_num, E.out⟩
        case measure => simp [intOf]; omega
    · obtain rfl : n = k := by omega
      have HNT := Lib.hid (show ts.any noType = false by
        have := HN.out
        rw [List.take_of_length_le (by rw [HLn.out]; exact Nat.le_refl _)] at this
        rw [List.any_eq_false]
        intro x hx
        simp [this x hx])
      by_cases hna : (n : Int) = ar
      · have HF := Lib.hid (show ruleErr s ts = if fitsGrp (grp s) ts = true then 0 else 8 by
          rw [RE.out, if_neg (by rw [HO.out, HNT.out]; simp), if_neg (by rw [HLn.out]; simpa using hna)])
        have q3 : ((n : Int) != ar) = false := by simpa using hna
        subst hna
        clear RE IO
        by_cases hop : s.data.toList = [111, 114]
        · have HG := Lib.hid (show grp s = 0 by rw [bytes_of hop]; decide)
          have tqo : (s.toList == [111, 114]) = true := str_is hop
          clear hop
          go_wp2_with fail
          have OKE := Lib.hid (fun (h : allThe ts 2 = true) => show ruleErr s ts = 0 by rw [HF.out, if_pos (by rw [HG.out]; exact h)])
          have BADE := Lib.hid (fun (h : allThe ts 2 = false) => show ruleErr s ts = 8 by rw [HF.out, if_neg (by rw [HG.out]; simp [fitsGrp, h])])
          go_loop [4, 10] (fun _ i => ∃ k : Nat, k ≤ n ∧ i = .int .i64 k ∧ ∀ x ∈ ts.take k, x = 2) (fun _ i => n - (intOf i).toNat)
          case atStart => exact ⟨0, by omega, rfl, by simp⟩
          case round =>
            obtain ⟨k, hk, rfl, hno⟩ := hrel
            have HM := Lib.hid hno
            clear hno
            by_cases hlk : k < n
            · obtain ⟨g', o', x, e', hx, c1⟩ := ints_at HL1.out hlk
              subst e'
              have HX := Lib.hid hx
              clear hx
              by_cases hxw : x = 2
              · have E := Lib.hid (eq_next HM.out HX.out hxw)
                have q4 : (x != 2) = false := by simpa using hxw
                clear hxw
                go_wp2_with fail
                go_round
                case rel => exact ⟨k + 1, by omega, by go_num, E.out⟩
                case measure => simp [intOf]; omega
              · have E := Lib.hid (BADE.out (allThe_not (List.mem_of_getElem? HX.out) hxw))
                have E2 := Lib.hid (show ruleTy s ts = 0 by rw [RT.out, E.out, if_neg (by decide)])
                have q4 : (x != 2) = true := by simpa using hxw
                clear hxw
                go_wp2_with fail
                go_ret2
                exact ⟨by rw [E.out, E2.out]; rfl, HB.out⟩
            · have E := Lib.hid (OKE.out (allThe_of (by have := HM.out; rwa [List.take_of_length_le (by rw [HLn.out]; omega)] at this)))
              have E2 := Lib.hid (show ruleTy s ts = 2 by rw [RT.out, E.out, if_pos rfl, HG.out]; rfl)
              go_wp2_with fail
              go_ret2
              exact ⟨by rw [E.out, E2.out]; rfl, HB.out⟩
        have no := hop
        clear hop
        by_cases hop : s.data.toList = [97, 110, 100]
        · have HG := Lib.hid (show grp s = 0 by rw [bytes_of hop]; decide)
          have tqo : (s.toList == [111, 114]) = false := str_ne (fun h => by rw [hop] at h; exact absurd h (by decide))
          have tqa : (s.toList == [97, 110, 100]) = true := str_is hop
          clear hop
          go_wp2_with fail
          have OKE := Lib.hid (fun (h : allThe ts 2 = true) => show ruleErr s ts = 0 by rw [HF.out, if_pos (by rw [HG.out]; exact h)])
          have BADE := Lib.hid (fun (h : allThe ts 2 = false) => show ruleErr s ts = 8 by rw [HF.out, if_neg (by rw [HG.out]; simp [fitsGrp, h])])
          go_loop [4, 10] (fun _ i => ∃ k : Nat, k ≤ n ∧ i = .int .i64 k ∧ ∀ x ∈ ts.take k, x = 2) (fun _ i => n - (intOf i).toNat)
          case atStart => exact ⟨0, by omega, rfl, by simp⟩
          case round =>
            obtain ⟨k, hk, rfl, hno⟩ := hrel
            have HM := Lib.hid hno
            clear hno
            by_cases hlk : k < n
            · obtain ⟨g', o', x, e', hx, c1⟩ := ints_at HL1.out hlk
              subst e'
              have HX := Lib.hid hx
              clear hx
              by_cases hxw : x = 2
              · have E := Lib.hid (eq_next HM.out HX.out hxw)
                have q4 : (x != 2) = false := by simpa using hxw
                clear hxw
                go_wp2_with fail
                go_round
                case rel => exact ⟨k + 1, by omega, by go_num, E.out⟩
                case measure => simp [intOf]; omega
              · have E := Lib.hid (BADE.out (allThe_not (List.mem_of_getElem? HX.out) hxw))
                have E2 := Lib.hid (show ruleTy s ts = 0 by rw [RT.out, E.out, if_neg (by decide)])
                have q4 : (x != 2) = true := by simpa using hxw
                clear hxw
                go_wp2_with fail
                go_ret2
                exact ⟨by rw [E.out, E2.out]; rfl, HB.out⟩
            · have E := Lib.hid (OKE.out (allThe_of (by have := HM.out; rwa [List.take_of_length_le (by rw [HLn.out]; omega)] at this)))
              have E2 := Lib.hid (show ruleTy s ts = 2 by rw [RT.out, E.out, if_pos rfl, HG.out]; rfl)
              go_wp2_with fail
              go_ret2
              exact ⟨by rw [E.out, E2.out]; rfl, HB.out⟩
        have na := hop
        clear hop
        by_cases hop : s.data.toList = [110, 111, 116]
        · have HG := Lib.hid (show grp s = 0 by rw [bytes_of hop]; decide)
          have tqo : (s.toList == [111, 114]) = false := str_ne (fun h => by rw [hop] at h; exact absurd h (by decide))
          have tqa : (s.toList == [97, 110, 100]) = false := str_ne (fun h => by rw [hop] at h; exact absurd h (by decide))
          have tqn : (s.toList == [110, 111, 116]) = true := str_is hop
          clear hop
          go_wp2_with fail
          have OKE := Lib.hid (fun (h : allThe ts 2 = true) => show ruleErr s ts = 0 by rw [HF.out, if_pos (by rw [HG.out]; exact h)])
          have BADE := Lib.hid (fun (h : allThe ts 2 = false) => show ruleErr s ts = 8 by rw [HF.out, if_neg (by rw [HG.out]; simp [fitsGrp, h])])
          go_loop [4, 10] (fun _ i => ∃ k : Nat, k ≤ n ∧ i = .int .i64 k ∧ ∀ x ∈ ts.take k, x = 2) (fun _ i => n - (intOf i).toNat)
          case atStart => exact ⟨0, by omega, rfl, by simp⟩
          case round =>
            obtain ⟨k, hk, rfl, hno⟩ := hrel
            have HM := Lib.hid hno
            clear hno
            by_cases hlk : k < n
            · obtain ⟨g', o', x, e', hx, c1⟩ := ints_at HL1.out hlk
              subst e'
              have HX := Lib.hid hx
              clear hx
              by_cases hxw : x = 2
              · have E := Lib.hid (eq_next HM.out HX.out hxw)
                have q4 : (x != 2) = false := by simpa using hxw
                clear hxw
                go_wp2_with fail
                go_round
                case rel => exact ⟨k + 1, by omega, by go_num, E.out⟩
                case measure => simp [intOf]; omega
              · have E := Lib.hid (BADE.out (allThe_not (List.mem_of_getElem? HX.out) hxw))
                have E2 := Lib.hid (show ruleTy s ts = 0 by rw [RT.out, E.out, if_neg (by decide)])
                have q4 : (x != 2) = true := by simpa using hxw
                clear hxw
                go_wp2_with fail
                go_ret2
                exact ⟨by rw [E.out, E2.out]; rfl, HB.out⟩
            · have E := Lib.hid (OKE.out (allThe_of (by have := HM.out; rwa [List.take_of_length_le (by rw [HLn.out]; omega)] at this)))
              have E2 := Lib.hid (show ruleTy s ts = 2 by rw [RT.out, E.out, if_pos rfl, HG.out]; rfl)
              go_wp2_with fail
              go_ret2
              exact ⟨by rw [E.out, E2.out]; rfl, HB.out⟩
        have nn := hop
        clear hop
        by_cases hop : s.data.toList = [61]
        · have HG := Lib.hid (show grp s = 1 by rw [bytes_of hop]; decide)
          have tqo : (s.toList == [111, 114]) = false := str_ne (fun h => by rw [hop] at h; exact absurd h (by decide))
          have tqa : (s.toList == [97, 110, 100]) = false := str_ne (fun h => by rw [hop] at h; exact absurd h (by decide))
          have tqn : (s.toList == [110, 111, 116]) = false := str_ne (fun h => by rw [hop] at h; exact absurd h (by decide))
          have tqe : (s.toList == [61]) = true := str_is hop
          have hn2 : n = 2 := by
            have h := HAr.out
            rw [bytes_of hop, show arityOf (mkB [61]) = 2 by decide] at h
            omega
          clear hop
          obtain ⟨g, o, x0, rfl, hx0, c0⟩ := ints_at HL1.out (show 0 < n by omega)
          rw [Nat.add_zero] at c0
          have HD := Lib.hid (show ts.getD 0 0 = x0 by rw [List.getD_eq_getElem?_getD, hx0]; rfl)
          have H2 := Lib.hid (two_fits (by rw [HLn.out]; exact hn2))
          have hnp : 0 < n := by omega
          clear hx0 hn2
          have OKE := Lib.hid (fun (h : allThe ts x0 = true) => show ruleErr s ts = 0 by rw [HF.out, if_pos (by rw [HG.out, H2.out, HD.out]; exact h)])
          have BADE := Lib.hid (fun (h : allThe ts x0 = false) => show ruleErr s ts = 8 by rw [HF.out, if_neg (by rw [HG.out, H2.out, HD.out, h]; decide)])
          go_wp2_with fail
          clear c0
          go_loop [4, 10] (fun _ i => ∃ k : Nat, k ≤ n ∧ i = .int .i64 k ∧ ∀ x ∈ ts.take k, x = x0) (fun _ i => n - (intOf i).toNat)
          case atStart => exact ⟨0, by omega, rfl, by simp⟩
          case round =>
            obtain ⟨k, hk, rfl, hno⟩ := hrel
            have HM := Lib.hid hno
            clear hno
            by_cases hlk : k < n
            · obtain ⟨g', o', x, e', hx, c1⟩ := ints_at HL1.out hlk
              cases e'
              have HX := Lib.hid hx
              clear hx
              by_cases hxw : x = x0
              · have E := Lib.hid (eq_next HM.out HX.out hxw)
                have q4 : (x != x0) = false := by simpa using hxw
                clear hxw
                go_wp2_with fail
                go_round
                case rel => exact ⟨k + 1, by omega, by go_num, E.out⟩
                case measure => simp [intOf]; omega
              · have E := Lib.hid (BADE.out (allThe_not (List.mem_of_getElem? HX.out) hxw))
                have E2 := Lib.hid (show ruleTy s ts = 0 by rw [RT.out, E.out, if_neg (by decide)])
                have q4 : (x != x0) = true := by simpa using hxw
                clear hxw
                go_wp2_with fail
                go_ret2
                exact ⟨by rw [E.out, E2.out]; rfl, HB.out⟩
            · have E := Lib.hid (OKE.out (allThe_of (by have := HM.out; rwa [List.take_of_length_le (by rw [HLn.out]; omega)] at this)))
              have E2 := Lib.hid (show ruleTy s ts = 2 by rw [RT.out, E.out, if_pos rfl, HG.out]; rfl)
              go_wp2_with fail
              go_ret2
              exact ⟨by rw [E.out, E2.out]; rfl, HB.out⟩
        have ne := hop
        clear hop
        by_cases hop : s.data.toList = [60, 62]
        · have HG := Lib.hid (show grp s = 1 by rw [bytes_of hop]; decide)
          have tqo : (s.toList == [111, 114]) = false := str_ne (fun h => by rw [hop] at h; exact absurd h (by decide))
          have tqa : (s.toList == [97, 110, 100]) = false := str_ne (fun h => by rw [hop] at h; exact absurd h (by decide))
          have tqn : (s.toList == [110, 111, 116]) = false := str_ne (fun h => by rw [hop] at h; exact absurd h (by decide))
          have tqe : (s.toList == [61]) = false := str_ne (fun h => by rw [hop] at h; exact absurd h (by decide))
          have tqd : (s.toList == [60, 62]) = true := str_is hop
          have hn2 : n = 2 := by
            have h := HAr.out
            rw [bytes_of hop, show arityOf (mkB [60, 62]) = 2 by decide] at h
            omega
          clear hop
          obtain ⟨g, o, x0, rfl, hx0, c0⟩ := ints_at HL1.out (show 0 < n by omega)
          rw [Nat.add_zero] at c0
          have HD := Lib.hid (show ts.getD 0 0 = x0 by rw [List.getD_eq_getElem?_getD, hx0]; rfl)
          have H2 := Lib.hid (two_fits (by rw [HLn.out]; exact hn2))
          have hnp : 0 < n := by omega
          clear hx0 hn2
          have OKE := Lib.hid (fun (h : allThe ts x0 = true) => show ruleErr s ts = 0 by rw [HF.out, if_pos (by rw [HG.out, H2.out, HD.out]; exact h)])
          have BADE := Lib.hid (fun (h : allThe ts x0 = false) => show ruleErr s ts = 8 by rw [HF.out, if_neg (by rw [HG.out, H2.out, HD.out, h]; decide)])
          go_wp2_with fail
          clear c0
          go_loop [4, 10] (fun _ i => ∃ k : Nat, k ≤ n ∧ i = .int .i64 k ∧ ∀ x ∈ ts.take k, x = x0) (fun _ i => n - (intOf i).toNat)
          case atStart => exact ⟨0, by omega, rfl, by simp⟩
          case round =>
            obtain ⟨k, hk, rfl, hno⟩ := hrel
            have HM := Lib.hid hno
            clear hno
            by_cases hlk : k < n
            · obtain ⟨g', o', x, e', hx, c1⟩ := ints_at HL1.out hlk
              cases e'
              have HX := Lib.hid hx
              clear hx
              by_cases hxw : x = x0
              · have E := Lib.hid (eq_next HM.out HX.out hxw)
                have q4 : (x != x0) = false := by simpa using hxw
                clear hxw
                go_wp2_with fail
                go_round
                case rel => exact ⟨k + 1, by omega, by go_num, E.out⟩
                case measure => simp [intOf]; omega
              · have E := Lib.hid (BADE.out (allThe_not (List.mem_of_getElem? HX.out) hxw))
                have E2 := Lib.hid (show ruleTy s ts = 0 by rw [RT.out, E.out, if_neg (by decide)])
                have q4 : (x != x0) = true := by simpa using hxw
                clear hxw
                go_wp2_with fail
                go_ret2
                exact ⟨by rw [E.out, E2.out]; rfl, HB.out⟩
            · have E := Lib.hid (OKE.out (allThe_of (by have := HM.out; rwa [List.take_of_length_le (by rw [HLn.out]; omega)] at this)))
              have E2 := Lib.hid (show ruleTy s ts = 2 by rw [RT.out, E.out, if_pos rfl, HG.out]; rfl)
              go_wp2_with fail
              go_ret2
              exact ⟨by rw [E.out, E2.out]; rfl, HB.out⟩
        have nd := hop
        clear hop
        by_cases hop : s.data.toList = [60]
        · have HG := Lib.hid (show grp s = 1 by rw [bytes_of hop]; decide)
          have tqo : (s.toList == [111, 114]) = false := str_ne (fun h => by rw [hop] at h; exact absurd h (by decide))
          have tqa : (s.toList == [97, 110, 100]) = false := str_ne (fun h => by rw [hop] at h; exact absurd h (by decide))
          have tqn : (s.toList == [110, 111, 116]) = false := str_ne (fun h => by rw [hop] at h; exact absurd h (by decide))
          have tqe : (s.toList == [61]) = false := str_ne (fun h => by rw [hop] at h; exact absurd h (by decide))
          have tqd : (s.toList == [60, 62]) = false := str_ne (fun h => by rw [hop] at h; exact absurd h (by decide))
          have tql : (s.toList == [60]) = true := str_is hop
          have hn2 : n = 2 := by
            have h := HAr.out
            rw [bytes_of hop, show arityOf (mkB [60]) = 2 by decide] at h
            omega
          clear hop
          obtain ⟨g, o, x0, rfl, hx0, c0⟩ := ints_at HL1.out (show 0 < n by omega)
          rw [Nat.add_zero] at c0
          have HD := Lib.hid (show ts.getD 0 0 = x0 by rw [List.getD_eq_getElem?_getD, hx0]; rfl)
          have H2 := Lib.hid (two_fits (by rw [HLn.out]; exact hn2))
          have hnp : 0 < n := by omega
          clear hx0 hn2
          have OKE := Lib.hid (fun (h : allThe ts x0 = true) => show ruleErr s ts = 0 by rw [HF.out, if_pos (by rw [HG.out, H2.out, HD.out]; exact h)])
          have BADE := Lib.hid (fun (h : allThe ts x0 = false) => show ruleErr s ts = 8 by rw [HF.out, if_neg (by rw [HG.out, H2.out, HD.out, h]; decide)])
          go_wp2_with fail
          clear c0
          go_loop [4, 10] (fun _ i => ∃ k : Nat, k ≤ n ∧ i = .int .i64 k ∧ ∀ x ∈ ts.take k, x = x0) (fun _ i => n - (intOf i).toNat)
          case atStart => exact ⟨0, by omega, rfl, by simp⟩
          case round =>
            obtain ⟨k, hk, rfl, hno⟩ := hrel
            have HM := Lib.hid hno
            clear hno
            by_cases hlk : k < n
            · obtain ⟨g', o', x, e', hx, c1⟩ := ints_at HL1.out hlk
              cases e'
              have HX := Lib.hid hx
              clear hx
              by_cases hxw : x = x0
              · have E := Lib.hid (eq_next HM.out HX.out hxw)
                have q4 : (x != x0) = false := by simpa using hxw
                clear hxw
                go_wp2_with fail
                go_round
                case rel => exact ⟨k + 1, by omega, by go_num, E.out⟩
                case measure => simp [intOf]; omega
              · have E := Lib.hid (BADE.out (allThe_not (List.mem_of_getElem? HX.out) hxw))
                have E2 := Lib.hid (show ruleTy s ts = 0 by rw [RT.out, E.out, if_neg (by decide)])
                have q4 : (x != x0) = true := by simpa using hxw
                clear hxw
                go_wp2_with fail
                go_ret2
                exact ⟨by rw [E.out, E2.out]; rfl, HB.out⟩
            · have E := Lib.hid (OKE.out (allThe_of (by have := HM.out; rwa [List.take_of_length_le (by rw [HLn.out]; omega)] at this)))
              have E2 := Lib.hid (show ruleTy s ts = 2 by rw [RT.out, E.out, if_pos rfl, HG.out]; rfl)
              go_wp2_with fail
              go_ret2
              exact ⟨by rw [E.out, E2.out]; rfl, HB.out⟩
        have nl := hop
        clear hop
        by_cases hop : s.data.toList = [60, 61]
        · have HG := Lib.hid (show grp s = 1 by rw [bytes_of hop]; decide)
          have tqo : (s.toList == [111, 114]) = false := str_ne (fun h => by rw [hop] at h; exact absurd h (by decide))
          have tqa : (s.toList == [97, 110, 100]) = false := str_ne (fun h => by rw [hop] at h; exact absurd h (by decide))
          have tqn : (s.toList == [110, 111, 116]) = false := str_ne (fun h => by rw [hop] at h; exact absurd h (by decide))
          have tqe : (s.toList == [61]) = false := str_ne (fun h => by rw [hop] at h; exact absurd h (by decide))
          have tqd : (s.toList == [60, 62]) = false := str_ne (fun h => by rw [hop] at h; exact absurd h (by decide))
          have tql : (s.toList == [60]) = false := str_ne (fun h => by rw [hop] at h; exact absurd h (by decide))
          have tqk : (s.toList == [60, 61]) = true := str_is hop
          have hn2 : n = 2 := by
            have h := HAr.out
            rw [bytes_of hop, show arityOf (mkB [60, 61]) = 2 by decide] at h
            omega
          clear hop
          obtain ⟨g, o, x0, rfl, hx0, c0⟩ := ints_at HL1.out (show 0 < n by omega)
          rw [Nat.add_zero] at c0
          have HD := Lib.hid (show ts.getD 0 0 = x0 by rw [List.getD_eq_getElem?_getD, hx0]; rfl)
          have H2 := Lib.hid (two_fits (by rw [HLn.out]; exact hn2))
          have hnp : 0 < n := by omega
          clear hx0 hn2
          have OKE := Lib.hid (fun (h : allThe ts x0 = true) => show ruleErr s ts = 0 by rw [HF.out, if_pos (by rw [HG.out, H2.out, HD.out]; exact h)])
          have BADE := Lib.hid (fun (h : allThe ts x0 = false) => show ruleErr s ts = 8 by rw [HF.out, if_neg (by rw [HG.out, H2.out, HD.out, h]; decide)])
          go_wp2_with fail
          clear c0
          go_loop [4, 10] (fun _ i => ∃ k : Nat, k ≤ n ∧ i = .int .i64 k ∧ ∀ x ∈ ts.take k, x = x0) (fun _ i => n - (intOf i).toNat)
          case atStart => exact ⟨0, by omega, rfl, by simp⟩
          case round =>
            obtain ⟨k, hk, rfl, hno⟩ := hrel
            have HM := Lib.hid hno
            clear hno
            by_cases hlk : k < n
            · obtain ⟨g', o', x, e', hx, c1⟩ := ints_at HL1.out hlk
              cases e'
              have HX := Lib.hid hx
              clear hx
              by_cases hxw : x = x0
              · have E := Lib.hid (eq_next HM.out HX.out hxw)
                have q4 : (x != x0) = false := by simpa using hxw
                clear hxw
                go_wp2_with fail
                go_round
                case rel => exact ⟨k + 1, by omega, by go_num, E.out⟩
                case measure => simp [intOf]; omega
              · have E := Lib.hid (BADE.out (allThe_not (List.mem_of_getElem? HX.out) hxw))
                have E2 := Lib.hid (show ruleTy s ts = 0 by rw [RT.out, E.out, if_neg (by decide)])
                have q4 : (x != x0) = true := by simpa using hxw
                clear hxw
                go_wp2_with fail
                go_ret2
                exact ⟨by rw [E.out, E2.out]; rfl, HB.out⟩
            · have E := Lib.hid (OKE.out (allThe_of (by have := HM.out; rwa [List.take_of_length_le (by rw [HLn.out]; omega)] at this)))
              have E2 := Lib.hid (show ruleTy s ts = 2 by rw [RT.out, E.out, if_pos rfl, HG.out]; rfl)
              go_wp2_with fail
              go_ret2
              exact ⟨by rw [E.out, E2.out]; rfl, HB.out⟩
        have nk := hop
        clear hop
        by_cases hop : s.data.toList = [62]
        · have HG := Lib.hid (show grp s = 1 by rw [bytes_of hop]; decide)
          have tqo : (s.toList == [111, 114]) = false := str_ne (fun h => by rw [hop] at h; exact absurd h (by decide))
          have tqa : (s.toList == [97, 110, 100]) = false := str_ne (fun h => by rw [hop] at h; exact absurd h (by decide))
          have tqn : (s.toList == [110, 111, 116]) = false := str_ne (fun h => by rw [hop] at h; exact absurd h (by decide))
          have tqe : (s.toList == [61]) = false := str_ne (fun h => by rw [hop] at h; exact absurd h (by decide))
          have tqd : (s.toList == [60, 62]) = false := str_ne (fun h => by rw [hop] at h; exact absurd h (by decide))
          have tql : (s.toList == [60]) = false := str_ne (fun h => by rw [hop] at h; exact absurd h (by decide))
          have tqk : (s.toList == [60, 61]) = false := str_ne (fun h => by rw [hop] at h; exact absurd h (by decide))
          have tqg : (s.toList == [62]) = true := str_is hop
          have hn2 : n = 2 := by
            have h := HAr.out
            rw [bytes_of hop, show arityOf (mkB [62]) = 2 by decide] at h
            omega
          clear hop
          obtain ⟨g, o, x0, rfl, hx0, c0⟩ := ints_at HL1.out (show 0 < n by omega)
          rw [Nat.add_zero] at c0
          have HD := Lib.hid (show ts.getD 0 0 = x0 by rw [List.getD_eq_getElem?_getD, hx0]; rfl)
          have H2 := Lib.hid (two_fits (by rw [HLn.out]; exact hn2))
          have hnp : 0 < n := by omega
          clear hx0 hn2
          have OKE := Lib.hid (fun (h : allThe ts x0 = true) => show ruleErr s ts = 0 by rw [HF.out, if_pos (by rw [HG.out, H2.out, HD.out]; exact h)])
          have BADE := Lib.hid (fun (h : allThe ts x0 = false) => show ruleErr s ts = 8 by rw [HF.out, if_neg (by rw [HG.out, H2.out, HD.out, h]; decide)])
          go_wp2_with fail
          clear c0
          go_loop [4, 10] (fun _ i => ∃ k : Nat, k ≤ n ∧ i = .int .i64 k ∧ ∀ x ∈ ts.take k, x = x0) (fun _ i => n - (intOf i).toNat)
          case atStart => exact ⟨0, by omega, rfl, by simp⟩
          case round =>
            obtain ⟨k, hk, rfl, hno⟩ := hrel
            have HM := Lib.hid hno
            clear hno
            by_cases hlk : k < n
            · obtain ⟨g', o', x, e', hx, c1⟩ := ints_at HL1.out hlk
              cases e'
              have HX := Lib.hid hx
              clear hx
              by_cases hxw : x = x0
              · have E := Lib.hid (eq_next HM.out HX.out hxw)
                have q4 : (x != x0) = false := by simpa using hxw
                clear hxw
                go_wp2_with fail
                go_round
                case rel => exact ⟨k + 1, by omega, by go_num, E.out⟩
                case measure => simp [intOf]; omega
              · have E := Lib.hid (BADE.out (allThe_not (List.mem_of_getElem? HX.out) hxw))
                have E2 := Lib.hid (show ruleTy s ts = 0 by rw [RT.out, E.out, if_neg (by decide)])
                have q4 : (x != x0) = true := by simpa using hxw
                clear hxw
                go_wp2_with fail
                go_ret2
                exact ⟨by rw [E.out, E2.out]; rfl, HB.out⟩
            · have E := Lib.hid (OKE.out (allThe_of (by have := HM.out; rwa [List.take_of_length_le (by rw [HLn.out]; omega)] at this)))
              have E2 := Lib.hid (show ruleTy s ts = 2 by rw [RT.out, E.out, if_pos rfl, HG.out]; rfl)
              go_wp2_with fail
              go_ret2
              exact ⟨by rw [E.out, E2.out]; rfl, HB.out⟩
        have ng := hop
        clear hop
        by_cases hop : s.data.toList = [62, 61]
        · have HG := Lib.hid (show grp s = 1 by rw [bytes_of hop]; decide)
          have tqo : (s.toList == [111, 114]) = false := str_ne (fun h => by rw [hop] at h; exact absurd h (by decide))
          have tqa : (s.toList == [97, 110, 100]) = false := str_ne (fun h => by rw [hop] at h; exact absurd h (by decide))
          have tqn : (s.toList == [110, 111, 116]) = false := str_ne (fun h => by rw [hop] at h; exact absurd h (by decide))
          have tqe : (s.toList == [61]) = false := str_ne (fun h => by rw [hop] at h; exact absurd h (by decide))
          have tqd : (s.toList == [60, 62]) = false := str_ne (fun h => by rw [hop] at h; exact absurd h (by decide))
          have tql : (s.toList == [60]) = false := str_ne (fun h => by rw [hop] at h; exact absurd h (by decide))
          have tqk : (s.toList == [60, 61]) = false := str_ne (fun h => by rw [hop] at h; exact absurd h (by decide))
          have tqg : (s.toList == [62]) = false := str_ne (fun h => by rw [hop] at h; exact absurd h (by decide))
          have tqh : (s.toList == [62, 61]) = true := str_is hop
          have hn2 : n = 2 := by
            have h := HAr.out
            rw [bytes_of hop, show arityOf (mkB [62, 61]) = 2 by decide] at h
            omega
          clear hop
          obtain ⟨g, o, x0, rfl, hx0, c0⟩ := ints_at HL1.out (show 0 < n by omega)
          rw [Nat.add_zero] at c0
          have HD := Lib.hid (show ts.getD 0 0 = x0 by rw [List.getD_eq_getElem?_getD, hx0]; rfl)
          have H2 := Lib.hid (two_fits (by rw [HLn.out]; exact hn2))
          have hnp : 0 < n := by omega
          clear hx0 hn2
          have OKE := Lib.hid (fun (h : allThe ts x0 = true) => show ruleErr s ts = 0 by rw [HF.out, if_pos (by rw [HG.out, H2.out, HD.out]; exact h)])
          have BADE := Lib.hid (fun (h : allThe ts x0 = false) => show ruleErr s ts = 8 by rw [HF.out, if_neg (by rw [HG.out, H2.out, HD.out, h]; decide)])
          go_wp2_with fail
          clear c0
          go_loop [4, 10] (fun _ i => ∃ k : Nat, k ≤ n ∧ i = .int .i64 k ∧ ∀ x ∈ ts.take k, x = x0) (fun _ i => n - (intOf i).toNat)
          case atStart => exact ⟨0, by omega, rfl, by simp⟩
          case round =>
            obtain ⟨k, hk, rfl, hno⟩ := hrel
            have HM := Lib.hid hno
            clear hno
            by_cases hlk : k < n
            · obtain ⟨g', o', x, e', hx, c1⟩ := ints_at HL1.out hlk
              cases e'
              have HX := Lib.hid hx
              clear hx
              by_cases hxw : x = x0
              · have E := Lib.hid (eq_next HM.out HX.out hxw)
                have q4 : (x != x0) = false := by simpa using hxw
                clear hxw
                go_wp2_with fail
                go_round
                case rel => exact ⟨k + 1, by omega, by go_num, E.out⟩
                case measure => simp [intOf]; omega
              · have E := Lib.hid (BADE.out (allThe_not (List.mem_of_getElem? HX.out) hxw))
                have E2 := Lib.hid (show ruleTy s ts = 0 by rw [RT.out, E.out, if_neg (by decide)])
                have q4 : (x != x0) = true := by simpa using hxw
                clear hxw
                go_wp2_with fail
                go_ret2
                exact ⟨by rw [E.out, E2.out]; rfl, HB.out⟩
            · have E := Lib.hid (OKE.out (allThe_of (by have := HM.out; rwa [List.take_of_length_le (by rw [HLn.out]; omega)] at this)))
              have E2 := Lib.hid (show ruleTy s ts = 2 by rw [RT.out, E.out, if_pos rfl, HG.out]; rfl)
              go_wp2_with fail
              go_ret2
              exact ⟨by rw [E.out, E2.out]; rfl, HB.out⟩
        have nh := hop
        clear hop
        by_cases hop : s.data.toList = [108, 101, 110]
        · have HG := Lib.hid (show grp s = 2 by rw [bytes_of hop]; decide)
          have tqo : (s.toList == [111, 114]) = false := str_ne (fun h => by rw [hop] at h; exact absurd h (by decide))
          have tqa : (s.toList == [97, 110, 100]) = false := str_ne (fun h => by rw [hop] at h; exact absurd h (by decide))
          have tqn : (s.toList == [110, 111, 116]) = false := str_ne (fun h => by rw [hop] at h; exact absurd h (by decide))
          have tqe : (s.toList == [61]) = false := str_ne (fun h => by rw [hop] at h; exact absurd h (by decide))
          have tqd : (s.toList == [60, 62]) = false := str_ne (fun h => by rw [hop] at h; exact absurd h (by decide))
          have tql : (s.toList == [60]) = false := str_ne (fun h => by rw [hop] at h; exact absurd h (by decide))
          have tqk : (s.toList == [60, 61]) = false := str_ne (fun h => by rw [hop] at h; exact absurd h (by decide))
          have tqg : (s.toList == [62]) = false := str_ne (fun h => by rw [hop] at h; exact absurd h (by decide))
          have tqh : (s.toList == [62, 61]) = false := str_ne (fun h => by rw [hop] at h; exact absurd h (by decide))
          have tqy : (s.toList == [108, 101, 110]) = true := str_is hop
          clear hop
          go_wp2_with fail
          have OKE := Lib.hid (fun (h : allThe ts 3 = true) => show ruleErr s ts = 0 by rw [HF.out, if_pos (by rw [HG.out]; exact h)])
          have BADE := Lib.hid (fun (h : allThe ts 3 = false) => show ruleErr s ts = 8 by rw [HF.out, if_neg (by rw [HG.out]; simp [fitsGrp, h])])
          go_loop [4, 10] (fun _ i => ∃ k : Nat, k ≤ n ∧ i = .int .i64 k ∧ ∀ x ∈ ts.take k, x = 3) (fun _ i => n - (intOf i).toNat)
          case atStart => exact ⟨0, by omega, rfl, by simp⟩
          case round =>
            obtain ⟨k, hk, rfl, hno⟩ := hrel
            have HM := Lib.hid hno
            clear hno
            by_cases hlk : k < n
            · obtain ⟨g', o', x, e', hx, c1⟩ := ints_at HL1.out hlk
              subst e'
              have HX := Lib.hid hx
              clear hx
              by_cases hxw : x = 3
              · have E := Lib.hid (eq_next HM.out HX.out hxw)
                have q4 : (x != 3) = false := by simpa using hxw
                clear hxw
                go_wp2_with fail
                go_round
                case rel => exact ⟨k + 1, by omega, by go_num, E.out⟩
                case measure => simp [intOf]; omega
              · have E := Lib.hid (BADE.out (allThe_not (List.mem_of_getElem? HX.out) hxw))
                have E2 := Lib.hid (show ruleTy s ts = 0 by rw [RT.out, E.out, if_neg (by decide)])
                have q4 : (x != 3) = true := by simpa using hxw
                clear hxw
                go_wp2_with fail
                go_ret2
                exact ⟨by rw [E.out, E2.out]; rfl, HB.out⟩
            · have E := Lib.hid (OKE.out (allThe_of (by have := HM.out; rwa [List.take_of_length_le (by rw [HLn.out]; omega)] at this)))
              have E2 := Lib.hid (show ruleTy s ts = 1 by rw [RT.out, E.out, if_pos rfl, HG.out]; rfl)
              go_wp2_with fail
              go_ret2
              exact ⟨by rw [E.out, E2.out]; rfl, HB.out⟩
        have ny := hop
        clear hop
        by_cases hop : s.data.toList = [105, 102]
        · have HG := Lib.hid (show grp s = 3 by rw [bytes_of hop]; decide)
          have tqo : (s.toList == [111, 114]) = false := str_ne (fun h => by rw [hop] at h; exact absurd h (by decide))
          have tqa : (s.toList == [97, 110, 100]) = false := str_ne (fun h => by rw [hop] at h; exact absurd h (by decide))
          have tqn : (s.toList == [110, 111, 116]) = false := str_ne (fun h => by rw [hop] at h; exact absurd h (by decide))
          have tqe : (s.toList == [61]) = false := str_ne (fun h => by rw [hop] at h; exact absurd h (by decide))
          have tqd : (s.toList == [60, 62]) = false := str_ne (fun h => by rw [hop] at h; exact absurd h (by decide))
          have tql : (s.toList == [60]) = false := str_ne (fun h => by rw [hop] at h; exact absurd h (by decide))
          have tqk : (s.toList == [60, 61]) = false := str_ne (fun h => by rw [hop] at h; exact absurd h (by decide))
          have tqg : (s.toList == [62]) = false := str_ne (fun h => by rw [hop] at h; exact absurd h (by decide))
          have tqh : (s.toList == [62, 61]) = false := str_ne (fun h => by rw [hop] at h; exact absurd h (by decide))
          have tqy : (s.toList == [108, 101, 110]) = false := str_ne (fun h => by rw [hop] at h; exact absurd h (by decide))
          have tqi : (s.toList == [105, 102]) = true := str_is hop
          obtain rfl : n = 3 := by
            have h := HAr.out
            rw [bytes_of hop, show arityOf (mkB [105, 102]) = 3 by decide] at h
            omega
          clear hop
          obtain ⟨g, o, x0, rfl, hx0, c0⟩ := ints_at HL1.out (k := 0) (by omega)
          rw [Nat.add_zero] at c0
          obtain ⟨g', o', x1, e1, hx1, c1⟩ := ints_at HL1.out (k := 1) (by omega)
          cases e1
          obtain ⟨g', o', x2, e2, hx2, c2⟩ := ints_at HL1.out (k := 2) (by omega)
          cases e2
          have HD := Lib.hid (show fitsGrp 3 ts = ((x0 == 2) && (x1 == x2)) by show ((ts.getD 0 0 == 2) && (ts.getD 1 0 == ts.getD 2 0)) = _; simp [List.getD_eq_getElem?_getD, hx0, hx1, hx2])
          have HTy := Lib.hid (show typeGrp 3 ts = x1 by show ts.getD 1 0 = x1; simp [List.getD_eq_getElem?_getD, hx1])
          clear hx0 hx1 hx2
          by_cases h0 : x0 = 2
          · by_cases h12 : x1 = x2
            · have q5 : (x0 != 2) = false := by simpa using h0
              have q6 : (x1 != x2) = false := by simpa using h12
              have E := Lib.hid (show ruleErr s ts = 0 by rw [HF.out, if_pos (by rw [HG.out, HD.out]; simp [h0, h12])])
              have E2 := Lib.hid (show ruleTy s ts = x1 by rw [RT.out, E.out, if_pos rfl, HG.out, HTy.out])
              clear h0 h12
              go_wp2_with fail
              go_quiet (fail)
              have HBZ := Lib.hid (below_drewN HB.out nq)
              have c1' : (w1.drewN nq).cell? ⟨g, o + 1, none⟩ = some (.int .i64 x1) := c1
              generalize w1.drewN nq = wz at HBZ c1' ⊢
              go_wp2_with fail
              go_ret2
              exact ⟨by rw [E.out, E2.out]; rfl, HBZ.out⟩
            · have q5 : (x0 != 2) = false := by simpa using h0
              have q6 : (x1 != x2) = true := by simpa using h12
              have E := Lib.hid (show ruleErr s ts = 8 by rw [HF.out, if_neg (by rw [HG.out, HD.out]; simp [h12])])
              have E2 := Lib.hid (show ruleTy s ts = 0 by rw [RT.out, E.out, if_neg (by decide)])
              clear h0 h12
              go_wp2_with fail
              go_quiet (fail)
              have HBZ := Lib.hid (below_drewN HB.out nq)
              generalize w1.drewN nq = wz at HBZ ⊢
              go_wp2_with fail
              go_ret2
              exact ⟨by rw [E.out, E2.out]; rfl, HBZ.out⟩
          · have q5 : (x0 != 2) = true := by simpa using h0
            have E := Lib.hid (show ruleErr s ts = 8 by rw [HF.out, if_neg (by rw [HG.out, HD.out]; simp [h0])])
            have E2 := Lib.hid (show ruleTy s ts = 0 by rw [RT.out, E.out, if_neg (by decide)])
            clear h0
            go_wp2_with fail
            go_quiet (fail)
            have HBZ := Lib.hid (below_drewN HB.out nq)
            generalize w1.drewN nq = wz at HBZ ⊢
            go_wp2_with fail
            go_ret2
            exact ⟨by rw [E.out, E2.out]; rfl, HBZ.out⟩
        have ni := hop
        clear hop
        have HG := Lib.hid (show grp s = 4 by unfold grp; rw [if_neg (by rintro (h | h | h); exact no h; exact na h; exact nn h), if_neg (by rintro (h | h | h | h | h | h); exact ne h; exact nd h; exact nl h; exact nk h; exact ng h; exact nh h), if_neg ny, if_neg ni])
        have tqo : (s.toList == [111, 114]) = false := str_ne no
        have tqa : (s.toList == [97, 110, 100]) = false := str_ne na
        have tqn : (s.toList == [110, 111, 116]) = false := str_ne nn
        have tqe : (s.toList == [61]) = false := str_ne ne
        have tqd : (s.toList == [60, 62]) = false := str_ne nd
        have tql : (s.toList == [60]) = false := str_ne nl
        have tqk : (s.toList == [60, 61]) = false := str_ne nk
        have tqg : (s.toList == [62]) = false := str_ne ng
        have tqh : (s.toList == [62, 61]) = false := str_ne nh
        have tqy : (s.toList == [108, 101, 110]) = false := str_ne ny
        have tqi : (s.toList == [105, 102]) = false := str_ne ni
        clear no na nn ne nd nl nk ng nh ny ni
        go_wp2_with fail
        have OKE := Lib.hid (fun (h : allThe ts 1 = true) => show ruleErr s ts = 0 by rw [HF.out, if_pos (by rw [HG.out]; exact h)])
        have BADE := Lib.hid (fun (h : allThe ts 1 = false) => show ruleErr s ts = 8 by rw [HF.out, if_neg (by rw [HG.out]; simp [fitsGrp, h])])
        go_loop [4, 10] (fun _ i => ∃ k : Nat, k ≤ n ∧ i = .int .i64 k ∧ ∀ x ∈ ts.take k, x = 1) (fun _ i => n - (intOf i).toNat)
        case atStart => exact ⟨0, by omega, rfl, by simp⟩
        case round =>
          obtain ⟨k, hk, rfl, hno⟩ := hrel
          have HM := Lib.hid hno
          clear hno
          by_cases hlk : k < n
          · obtain ⟨g', o', x, e', hx, c1⟩ := ints_at HL1.out hlk
            subst e'
            have HX := Lib.hid hx
            clear hx
            by_cases hxw : x = 1
            · have E := Lib.hid (eq_next HM.out HX.out hxw)
              have q4 : (x != 1) = false := by simpa using hxw
              clear hxw
              go_wp2_with fail
              go_round
              case rel => exact ⟨k + 1, by omega, by go_num, E.out⟩
              case measure => simp [intOf]; omega
            · have E := Lib.hid (BADE.out (allThe_not (List.mem_of_getElem? HX.out) hxw))
              have E2 := Lib.hid (show ruleTy s ts = 0 by rw [RT.out, E.out, if_neg (by decide)])
              have q4 : (x != 1) = true := by simpa using hxw
              clear hxw
              go_wp2_with fail
              go_ret2
              exact ⟨by rw [E.out, E2.out]; rfl, HB.out⟩
          · have E := Lib.hid (OKE.out (allThe_of (by have := HM.out; rwa [List.take_of_length_le (by rw [HLn.out]; omega)] at this)))
            have E2 := Lib.hid (show ruleTy s ts = 1 by rw [RT.out, E.out, if_pos rfl, HG.out]; rfl)
            go_wp2_with fail
            go_ret2
            exact ⟨by rw [E.out, E2.out]; rfl, HB.out⟩
      · have E := Lib.hid (show ruleErr s ts = 3 by rw [RE.out, if_neg (by rw [HO.out, HNT.out]; simp), if_pos (by rw [HLn.out]; exact hna)])
        have E2 := Lib.hid (show ruleTy s ts = 0 by rw [RT.out, E.out, if_neg (by decide)])
        have q3 : ((n : Int) != ar) = true := by simpa using hna
        clear hna
        go_wp2_with fail
        go_ret2
        exact ⟨by rw [E.out, E2.out]; rfl, HB.out⟩
end Go.Proofs.YtlkgeflcnbgndaaGreatDoor
