/- Expressions as text, plain: what a right one is written as; how long that may be. tree.shown and tree.Print, walked: the text of an expression that is right. The document's Text, walked: the text of an expression that is right. -/
import Derived.Test.YtpbbkpfaphjdoaaGreatDoorSCheck
import Derived.Test.YtpbbkpfaphjdoaaGreatDoorSLexFns
import Derived.Lib.Join
import Derived.Test.YtpbbkpfaphjdoaaGreatDoorSOnly
import Derived.Test.YtpbbkpfaphjdoaaGreatDoorSExOwn
import Derived.Test.YtpbbkpfaphjdoaaGreatDoorSRdGo
import Derived.Deep.QuietTactic
import Derived.BigQuiet
import Derived.BigRegion
import Derived.StillTailTactics
import Derived.Test.YtpbbkpfaphjdoaaGreatDoorSRefRead
namespace Go.Proofs.YtpbbkpfaphjdoaaGreatDoor
open Go.ChangeShapes Go.WideShapes Go.ChangeAt Go.RowKit
def isLenOp (s : ByteArray) : Prop := s.data.toList = [108, 101, 110]
def isIfOp (s : ByteArray) : Prop := s.data.toList = [105, 102]
def isNotOp (s : ByteArray) : Prop := s.data.toList = [110, 111, 116]
def isNegOp (s : ByteArray) : Prop := s.data.toList = [110, 101, 103]
instance (s : ByteArray) : Decidable (isLenOp s) := inferInstanceAs (Decidable (_ = _))
instance (s : ByteArray) : Decidable (isIfOp s) := inferInstanceAs (Decidable (_ = _))
instance (s : ByteArray) : Decidable (isNotOp s) := inferInstanceAs (Decidable (_ = _))
instance (s : ByteArray) : Decidable (isNegOp s) := inferInstanceAs (Decidable (_ = _))
def nodeText (op name : ByteArray) (v : Val) (ts : List (List UInt8)) : List UInt8 :=
 if isCol op then name.data.toList
 else if isVal op then valText v
 else if isLenOp op ∨ isIfOp op then op.data.toList ++ [40] ++ Lib.join ts [44, 32] ++ [41]
 else if isNotOp op then [40, 110, 111, 116, 32] ++ ts.getD 0 [] ++ [41]
 else if isNegOp op then [40, 45, 32] ++ ts.getD 0 [] ++ [41]
 else [40] ++ ts.getD 0 [] ++ [32] ++ op.data.toList ++ [32] ++ ts.getD 1 [] ++ [41]
mutual
def exText : Ex → List UInt8
 | .mk op name v _ _ l _ => nodeText op name v (exTexts l)
def exTexts : List Ex → List (List UInt8)
 | [] => []
 | a :: l => exText a :: exTexts l
end
theorem exTexts_map : ∀ l : List Ex, exTexts l = l.map exText
 | [] => by rw [exTexts]; rfl
 | a :: l => by rw [exTexts, exTexts_map l]; rfl
theorem exText_eq (e : Ex) : exText e = nodeText e.op e.name e.val (e.args.map exText) := by cases e; rw [exText, exTexts_map]; rfl
theorem op_two {op : ByteArray} {a b : List UInt8} (h : op.data.toList = a) (h2 : op.data.toList = b) (hne : a ≠ b) : False := hne (h.symm.trans h2)
theorem op_no {op : ByteArray} {a b : List UInt8} (h : op.data.toList = a) (hne : a ≠ b) : (op.toList == b) = false := by rw [Lib.toList_data]; exact beq_eq_false_iff_ne.2 (fun e => op_two h e hne)
section
variable {op name : ByteArray} {v : Val} {ts : List (List UInt8)}
theorem nodeText_col (g : isCol op) : nodeText op name v ts = name.data.toList := if_pos g
theorem nodeText_val (g : isVal op) : nodeText op name v ts = valText v := by unfold nodeText; rw [if_neg (show ¬ isCol op from fun e => op_two g e (by decide)), if_pos g]
theorem nodeText_len (g : isLenOp op) : nodeText op name v ts = [108, 101, 110] ++ [40] ++ Lib.join ts [44, 32] ++ [41] := by unfold nodeText; rw [if_neg (show ¬ isCol op from fun e => op_two g e (by decide)), if_neg (show ¬ isVal op from fun e => op_two g e (by decide)), if_pos (Or.inl g), show op.data.toList = _ from g]
theorem nodeText_if (g : isIfOp op) : nodeText op name v ts = [105, 102] ++ [40] ++ Lib.join ts [44, 32] ++ [41] := by unfold nodeText; rw [if_neg (show ¬ isCol op from fun e => op_two g e (by decide)), if_neg (show ¬ isVal op from fun e => op_two g e (by decide)), if_pos (Or.inr g), show op.data.toList = _ from g]
theorem nodeText_not (g : isNotOp op) : nodeText op name v ts = [40, 110, 111, 116, 32] ++ ts.getD 0 [] ++ [41] := by unfold nodeText; rw [if_neg (show ¬ isCol op from fun e => op_two g e (by decide)), if_neg (show ¬ isVal op from fun e => op_two g e (by decide)), if_neg (show ¬ (isLenOp op ∨ isIfOp op) from fun e => by rcases e with e | e; exact op_two g e (by decide); exact op_two g e (by decide)), if_pos g]
theorem nodeText_neg (g : isNegOp op) : nodeText op name v ts = [40, 45, 32] ++ ts.getD 0 [] ++ [41] := by unfold nodeText; rw [if_neg (show ¬ isCol op from fun e => op_two g e (by decide)), if_neg (show ¬ isVal op from fun e => op_two g e (by decide)), if_neg (show ¬ (isLenOp op ∨ isIfOp op) from fun e => by rcases e with e | e; exact op_two g e (by decide); exact op_two g e (by decide)), if_neg (show ¬ isNotOp op from fun e => op_two g e (by decide)), if_pos g]
theorem nodeText_sign (g1 : ¬ isCol op) (g2 : ¬ isVal op) (g3 : ¬ isLenOp op) (g4 : ¬ isIfOp op) (g5 : ¬ isNotOp op) (g6 : ¬ isNegOp op) : nodeText op name v ts = [40] ++ ts.getD 0 [] ++ [32] ++ op.data.toList ++ [32] ++ ts.getD 1 [] ++ [41] := by
 unfold nodeText
 rw [if_neg g1, if_neg g2, if_neg (by rintro (e | e); exact g3 e; exact g4 e), if_neg g5, if_neg g6]
end
inductive NodeIs (op name : ByteArray) (v : Val) (n : Nat) : Prop
 | col (h : isCol op) (h0 : n = 0) (hn : treeName name = true)
 | val (h : isVal op) (h0 : n = 0) (hv : vcheck v = 0) (hp : v.type = 1 → 0 ≤ v.n)
 | len (h : isLenOp op) (h0 : n = 1)
 | if_ (h : isIfOp op) (h0 : n = 3)
 | not (h : isNotOp op) (h0 : n = 1)
 | neg (h : isNegOp op) (h0 : n = 1)
 | sign (h1 : ¬ isCol op) (h2 : ¬ isVal op) (h3 : ¬ isLenOp op) (h4 : ¬ isIfOp op) (h5 : ¬ isNotOp op) (h6 : ¬ isNegOp op) (hs : isSign op = true) (h0 : n = 2)
theorem node_is {op name : ByteArray} {v : Val} {n : Nat} (h : nodeErrOf op name v n = 0) : NodeIs op name v n := by
 unfold nodeErrOf at h
 split at h
 ·omega
 rename_i h1
 split at h
 ·omega
 rename_i h2
 have hn : (n : Int) = arityOf op := by
  by_cases e : (n : Int) = arityOf op
  ·exact e
  ·exact absurd (Or.inl e) h2
 by_cases hc : isCol op
 ·refine .col hc ?_ ?_
  ·unfold arityOf at hn; rw [if_pos (Or.inl (show op.data.toList = [99, 111, 108] from hc))] at hn; omega
  ·cases hx : treeName name with
   | true => rfl
   | false => exact absurd (Or.inr ⟨hc, hx⟩) h1
 by_cases hv : isVal op
 ·have h0 : n = 0 := by unfold arityOf at hn; rw [if_pos (Or.inr (show op.data.toList = [118, 97, 108] from hv))] at hn; omega
  rw [if_neg (fun e => e hv)] at h
  by_cases hk : vcheck v = 0
  ·rw [if_neg (fun e => e hk)] at h
   refine .val hv h0 hk (fun ht => ?_)
   by_cases hp : v.n < 0
   ·rw [if_pos ⟨ht, hp⟩] at h; omega
   ·omega
  ·rw [if_pos hk] at h; exact absurd h hk
 have ha : arityOf op = if isNotOp op ∨ isNegOp op ∨ isLenOp op then 1 else if isIfOp op then 3 else signAr op := by
  unfold arityOf
  rw [if_neg (by rintro (e | e); exact hc e; exact hv e)]
  rfl
 rw [ha] at hn
 by_cases g1 : isNotOp op
 ·rw [if_pos (Or.inl g1)] at hn; exact .not g1 (by omega)
 by_cases g2 : isNegOp op
 ·rw [if_pos (Or.inr (Or.inl g2))] at hn; exact .neg g2 (by omega)
 by_cases g3 : isLenOp op
 ·rw [if_pos (Or.inr (Or.inr g3))] at hn; exact .len g3 (by omega)
 rw [if_neg (by rintro (e | e | e); exact g1 e; exact g2 e; exact g3 e)] at hn
 by_cases g4 : isIfOp op
 ·rw [if_pos g4] at hn; exact .if_ g4 (by omega)
 rw [if_neg g4] at hn
 unfold signAr at hn
 cases hs : isSign op with
 | true => rw [hs] at hn; exact .sign hc hv g3 g4 g1 g2 hs (by rw [if_pos rfl] at hn; omega)
 | false => rw [hs, if_neg (by decide)] at hn; omega
theorem sign_len {op : ByteArray} (h : isSign op = true) : op.size ≤ 3 := by
 unfold isSign at h
 obtain ⟨j, hj, h2⟩ := List.any_eq_true.1 h
 have hm := (Lib.containsS_iff _ _).1 h2
 have hj := List.mem_range.1 hj
 have : ∀ j, j < 5 → ∀ x ∈ lvlB j, x.size ≤ 3 := by decide
 exact this j hj op hm
theorem name_len {s : ByteArray} (h : treeName s = true) : s.data.toList.length ≤ 8 := by
 unfold treeName nameOk at h
 simp only [Bool.and_eq_true, decide_eq_true_eq] at h
 exact h.1.2.2
def lensT : List (List UInt8) → Nat
 | [] => 0
 | a :: l => a.length + lensT l
theorem lensT_at : ∀ (ts : List (List UInt8)) (k : Nat), (ts.getD k []).length ≤ lensT ts
 | [], k => by simp [lensT]
 | a :: l, 0 => by simp [lensT]
 | a :: l, k + 1 => by have := lensT_at l k; show (l.getD k []).length ≤ a.length + lensT l; omega
theorem lensT_two (ts : List (List UInt8)) : (ts.getD 0 []).length + (ts.getD 1 []).length ≤ lensT ts := by
 match ts with
 | [] => simp [lensT]
 | [a] => simp [lensT]
 | a :: b :: l => show a.length + b.length ≤ a.length + (b.length + lensT l); omega
theorem lensT_join : ∀ (ts : List (List UInt8)), (Lib.join ts [44, 32]).length ≤ lensT ts + 2 * ts.length
 | [] => by rw [Lib.join_nil]; simp
 | a :: l => by
  have e : ∀ m : List (List UInt8), Lib.lens m = lensT m := fun m => by
   induction m with
   | nil => rfl
   | cons x m ih => simp [Lib.lens, lensT] at *; first | omega | done
  rw [Lib.join_length, e]
  simp only [List.length_cons, List.length_nil]
  omega
mutual

def fitsE : Ex → Prop
 | .mk _ _ v _ _ l _ => fits v.n ∧ fitsEs l
def fitsEs : List Ex → Prop
 | [] => True
 | a :: l => fitsE a ∧ fitsEs l
end
theorem fitsEs_of : ∀ {l : List Ex}, (∀ a ∈ l, fitsE a) → fitsEs l
 | [], _ => by rw [fitsEs]; trivial
 | a :: l, h => by rw [fitsEs]; exact ⟨h a List.mem_cons_self, fitsEs_of (fun x hx => h x (List.mem_cons_of_mem _ hx))⟩
theorem fitsE_sees {w : World} {e : Ex} (h : SeesEx w e) : fitsE e := by
 induction h with
 | @mk e hs ho hn hv hp ha ih =>
  obtain ⟨op, name, v, A, c, args, pos⟩ := e
  rw [fitsE]
  exact ⟨hv.2.1, fitsEs_of ih⟩
mutual
theorem exText_len : ∀ e : Ex, nodesErr e = 0 → fitsE e → (exText e).length ≤ 120 * exN e
 | .mk op name v A c args pos, h, hf => by
  obtain ⟨h1, h2⟩ := nodesErr_parts h
  have ih := exTexts_len args h2 hf.2
  rw [exText, exN]
  have hl : (exTexts args).length = args.length := by rw [exTexts_map, List.length_map]
  have key : (nodeText op name v (exTexts args)).length ≤ lensT (exTexts args) + 120 := by
   cases node_is h1 with
   | col g h0 hn => rw [nodeText_col g]; have := name_len hn; omega
   | val g h0 hv hp => rw [nodeText_val g]; have := valText_len hf.1 hv; omega
   | len g h0 =>
    rw [nodeText_len g]
    have := lensT_join (exTexts args)
    simp only [List.length_append, List.length_cons, List.length_nil]
    omega
   | if_ g h0 =>
    rw [nodeText_if g]
    have := lensT_join (exTexts args)
    simp only [List.length_append, List.length_cons, List.length_nil]
    omega
   | not g h0 =>
    rw [nodeText_not g]
    have := lensT_at (exTexts args) 0
    simp only [List.length_append, List.length_cons, List.length_nil]
    omega
   | neg g h0 =>
    rw [nodeText_neg g]
    have := lensT_at (exTexts args) 0
    simp only [List.length_append, List.length_cons, List.length_nil]
    omega
   | sign g1 g2 g3 g4 g5 g6 hs h0 =>
    rw [nodeText_sign g1 g2 g3 g4 g5 g6]
    have := lensT_two (exTexts args)
    have h3 := sign_len hs
    have e3 : op.data.toList.length = op.size := rfl
    simp only [List.length_append, List.length_cons, List.length_nil]
    omega
  omega
theorem exTexts_len : ∀ l : List Ex, nodesErrs l = 0 → fitsEs l → lensT (exTexts l) ≤ 120 * exNs l
 | [], _, _ => by rw [exTexts]; exact Nat.zero_le _
 | a :: l, h, hf => by
  have h1 := nodesErrs_all h a List.mem_cons_self
  have h2 : nodesErrs l = 0 := by rw [nodesErrs] at h; rw [if_neg (by simp [h1])] at h; exact h
  have e1 := exText_len a h1 hf.1
  have e2 := exTexts_len l h2 hf.2
  rw [exTexts, exNs]
  show (exText a).length + lensT (exTexts l) ≤ _
  omega
end
end Go.Proofs.YtpbbkpfaphjdoaaGreatDoor
namespace Go.Proofs.YtpbbkpfaphjdoaaGreatDoor
open Go.ChangeShapes Go.WideShapes Go.ChangeAt Go.RowKit
def txB (l : List UInt8) : ByteArray := ⟨l.toArray⟩
theorem texts_snoc {l : List Ex} {k : Nat} {a : Ex} (h : l[k]? = some a) : strCells ((exTexts (l.take (k + 1))).map txB) = strCells ((exTexts (l.take k)).map txB) ++ [.string (txB (exText a))] := by
 rw [List.take_add_one, h, exTexts_map, Option.toList_some, List.map_append, List.map_append, ← exTexts_map]
 simp [strCells]
theorem strs_at' {w : World} {A : Option Addr} {n c : Nat} {zs : List ByteArray} (h : Sees w A n c 1 (strCells zs)) {k : Nat} (hk : k < n) : ∃ g o z, A = some ⟨g, o, none⟩ ∧ zs[k]? = some z ∧ w.cell? ⟨g, o + k, none⟩ = some (.string z) := by
 obtain ⟨g, o, u, e, hu, hc⟩ := h.at_ hk
 obtain ⟨z, hz, rfl⟩ := strCells_at hu
 exact ⟨g, o, z, e, hz, hc⟩
def ShownAt (m : Nat) : Prop := ∀ e : Ex, SizeOf.sizeOf e ≤ m → nodesErr e = 0 → exN e ≤ 400 → ∀ w : World, TextT w → SeesEx w e → Calls Tryz.prog 172 #[exV e] w fun r w' => r = .returned (.string (txB (exText e))) ∧ Below w.heap.size w w'
set_option maxHeartbeats 8000000 in
set_option maxRecDepth 100000 in
theorem shown_step (m : Nat) (ih : ShownAt m) (op name : ByteArray) (v : Val) (A : Option Addr) (c : Nat) (args : List Ex) (pos : Int) (hm : SizeOf.sizeOf (Ex.mk op name v A c args pos) ≤ m + 1) (hk : nodesErr (.mk op name v A c args pos) = 0) (hN : exN (.mk op name v A c args pos) ≤ 400) (w : World) (hT : TextT w)
  (hx : SeesEx w (.mk op name v A c args pos)) :
  Calls Tryz.prog 172 #[exV (.mk op name v A c args pos)] w fun r w' => r = .returned (.string (txB (exText (.mk op name v A c args pos)))) ∧ Below w.heap.size w w' := by
 obtain ⟨w1, hw1, ho1, hb1, hs1⟩ := box_ex w (.mk op name v A c args pos)
 obtain ⟨hk1, hk2⟩ := nodesErr_parts hk
 have HNI := Lib.hid (node_is hk1)
 have HX := Lib.hid hx
 have HTT := Lib.hid hT
 have hfe := fitsE_sees hx
 rw [fitsE] at hfe
 have hNe : exN (.mk op name v A c args pos) = exNs args + 1 := by rw [exN]
 have HIH := Lib.hid (show ∀ (k : Nat) (a : Ex), args[k]? = some a → ∀ w' : World, TextT w' → SeesEx w' a → Calls Tryz.prog 172 #[exV a] w' fun r w'' => r = .returned (.string (txB (exText a))) ∧ Below w'.heap.size w' w'' from fun k a ha w' => ih a (by have := ex_lt (e := .mk op name v A c args pos) (List.mem_of_getElem? ha); omega) (nodesErrs_all hk2 a (List.mem_of_getElem? ha)) (by have := exNs_mem (List.mem_of_getElem? ha); omega) w')
 have HVN := Lib.hid (show fits v.n ∧ v.wf from ⟨hfe.1, hx.parts.2.2.2.1⟩)
 have HLT := Lib.hid (show lensT (exTexts args) ≤ 48000 from by have := exTexts_len args hk2 hfe.2; omega)
 have HEX := Lib.hid (show exText (.mk op name v A c args pos) = nodeText op name v (exTexts args) by rw [exText])
 have hx12 := ho1
 obtain ⟨x0, x1, x2, x3, x4, x5, x6⟩ := hx12.cells
 replace x0 : w1.cell? ⟨w.heap.size, 0, none⟩ = some (.string op) := x0
 replace x1 : w1.cell? ⟨w.heap.size, 1, none⟩ = some (.string name) := x1
 replace x2 : w1.cell? ⟨w.heap.size, 2, none⟩ = some (.int .i64 v.type) := x2
 replace x3 : w1.cell? ⟨w.heap.size, 3, none⟩ = some (.int .i64 v.n) := x3
 replace x4 : w1.cell? ⟨w.heap.size, 4, none⟩ = some (.string v.s) := x4
 replace x5 : w1.cell? ⟨w.heap.size, 5, none⟩ = some (.slice A args.length c) := x5
 have hops : op.size ≤ maxLen := hx.parts.2.1
 have hcap : args.length ≤ c := hx.parts.1.2.1
 have hmax : c ≤ maxLen := hx.parts.1.2.2.1
 unfold maxLen at hmax
 have HW1 : Hid (w.alloc (.cells #[.string op, .string name, .int .i64 v.type, .int .i64 v.n, .string v.s, .slice A args.length c, .int .i64 pos] 26) = w1) := Lib.hid hw1
 have HO1 := Lib.hid ho1
 have HB1 := Lib.hid hb1
 show Calls Tryz.prog 172 #[.agg #[.string op, .string name, .int .i64 v.type, .int .i64 v.n, .string v.s, .slice A args.length c, .int .i64 pos]] w _
 obtain ⟨n, hn⟩ : ∃ n, args.length = n := ⟨_, rfl⟩
 have HNN := Lib.hid hn
 have hn400 : n ≤ 400 := by
  rw [← hn]
  have : ∀ l : List Ex, l.length ≤ exNs l := fun l => by
   induction l with
   | nil => exact Nat.le_refl _
   | cons a l ih => rw [exNs, List.length_cons]; have : 1 ≤ exN a := by { cases a; rw [exN]; omega }; omega
  have := this args
  omega
 rw [hn] at HW1 x5 hcap ⊢
 have hl1 := ho1.lt
 clear ih hm hk hk1 hk2 hN hT hx hfe hNe hw1 ho1 hb1 hs1 hx12 hn
 go_enter Tryz.func172, Tryz.ntmps172
 go_wp2_with (first | rw [HW1.out])
 go_loopw [3, 11] (fun r i wr => ∃ k : Nat, k ≤ n ∧ i = .int .i64 k ∧ wr.ownsRow w1.heap.size 9 1 r k (strCells ((exTexts (args.take k)).map txB)) ∧ Below w1.heap.size w1 wr) (fun _ i _ => n - (intOf i).toNat)
 case atStart => exact ⟨0, Nat.zero_le _, rfl, World.ownsRow_nil _ _ _ _, Below.refl _ _⟩
 case round =>
  obtain ⟨k, hkn, rfl, hown, hb⟩ := hrel
  have HOWN := Lib.hid hown
  have HB := Lib.hid hb
  by_cases hlk : k < n
  ·obtain ⟨ga, fa, a, hA2, hga, ha, hsa, a0, a1, a2, a3, a4, a5, a6⟩ := ((HX.out.keep HB1.out).keep hb).at_ (k := k) (by rw [show (Ex.mk op name v A c args pos).args.length = n from HNN.out]; exact hlk)
   replace ha : args[k]? = some a := ha
   obtain rfl : A = some ⟨ga, fa, none⟩ := hA2
   obtain ⟨w2, hw2, ho2, hb2, -⟩ := box_ex wr a
   have T := Lib.hid (HIH.out k a ha w2 ((HTT.out.keep HB1.out).keep (hb.trans (hb2.mono hb.size))) (hsa.keep hb2))
   have HA := Lib.hid ha
   obtain ⟨y0, y1, y2, y3, y4, y5, y6⟩ := ho2.cells
   have hl2 := ho2.lt
   have HOWN2 := Lib.hid ((Only.of_below (S := fun _ => False) hb2).own hown (fun _ _ e => e))
   have HW2 := Lib.hid hw2
   have HB2 := Lib.hid (hb.trans (hb2.mono hb.size))
   unfold exV at T
   clear ha hsa hw2 hb2 ho2 hb hown
   go_wp2_with (first | rw [HW2.out])
   refine (T.out).mono ?_
   rintro e' w3 ⟨rfl, hb3⟩
   have hown3 := (Only.of_below (S := fun _ => False) hb3).own HOWN2.out (fun _ _ e => e)
   have hb3' : Below w1.heap.size w1 w3 := HB2.out.trans (hb3.mono HB2.out.size)
   clear hb3 T
   go_wp2_with (first
    | (at_builtin; refine wpList_append_one strSlice rfl _ _ rfl rfl rfl hown3 hb3' (Nat.le_refl _) rfl (by intro u hu; simp at hu; subst hu; rfl) (by omega) ?_; intro v1 w6 hown6 hb6 _))
   go_roundw
   case rel => exact ⟨k + 1, by omega, by go_num, by rw [texts_snoc HA.out]; exact hown6, hb6⟩
   case measure => simp [intOf]; omega
  ·obtain rfl : k = n := by omega
   obtain ⟨sA, sc, rfl, hss⟩ := Sees.of_own hown
   rw [show args.take k = args from List.take_of_length_le (by rw [HNN.out]; exact Nat.le_refl _)] at hss
   have HSS := Lib.hid hss
   have HTL := Lib.hid (show (exTexts args).length = k by rw [exTexts_map, List.length_map]; exact HNN.out)
   have hx1 : wr.cell? ⟨w.heap.size, 0, none⟩ = some (.string op) := (hb.cell (p := ⟨w.heap.size, 0, none⟩) hl1).trans x0
   have hx2 : wr.cell? ⟨w.heap.size, 1, none⟩ = some (.string name) := (hb.cell (p := ⟨w.heap.size, 1, none⟩) hl1).trans x1
   have hx3 : wr.cell? ⟨w.heap.size, 2, none⟩ = some (.int .i64 v.type) := (hb.cell (p := ⟨w.heap.size, 2, none⟩) hl1).trans x2
   have hx4 : wr.cell? ⟨w.heap.size, 3, none⟩ = some (.int .i64 v.n) := (hb.cell (p := ⟨w.heap.size, 3, none⟩) hl1).trans x3
   have hx5 : wr.cell? ⟨w.heap.size, 4, none⟩ = some (.string v.s) := (hb.cell (p := ⟨w.heap.size, 4, none⟩) hl1).trans x4
   have HBW := Lib.hid (show Below w.heap.size w wr from below_step HB1.out hb)
   have HTR := Lib.hid ((HTT.out.keep HB1.out).keep hb)
   generalize exTexts args = ts at HSS HLT HTL HEX
   clear hown hss hb x0 x1 x2 x3 x4 x5 HOWN HB HX HIH
   cases HNI.out with
   | col g h0 hn =>
    have o1 : (op.toList == [99, 111, 108]) = true := by rw [Lib.toList_data]; exact beq_iff_eq.2 g
    have HE := Lib.hid (show txB (exText (.mk op name v A c args pos)) = name by rw [HEX.out, nodeText_col g]; rfl)
    go_wp2_with fail
    go_ret
    rw [HE.out]
    exact ⟨rfl, HBW.out⟩
   | val g h0 hv hp =>
    have o0 : (op.toList == [99, 111, 108]) = false := op_no g (by decide)
    have ot : (op.toList == [118, 97, 108]) = true := by rw [Lib.toList_data]; exact beq_iff_eq.2 g
    have HE := Lib.hid (show txB (exText (.mk op name v A c args pos)) = ⟨(valText v).toArray⟩ by rw [HEX.out, nodeText_val g]; rfl)
    by_cases h1 : v.type = 1
    ·have q1 : (v.type == 1) = true := beq_iff_eq.2 h1
     have HI := Lib.hid (show valText v = Lib.itoa v.n by unfold valText; rw [if_pos h1])
     have hfn := HVN.out.1
     have TI := Lib.hid (Tryz.strconv_Itoa v.n (by unfold fits lo63 hi63 at hfn; omega) (by unfold fits lo63 hi63 at hfn; omega) wr (HTR.out.tab wr (Below.refl _ _)))
     clear h1
     go_wp2_with fail
     refine (TI.out).mono ?_
     rintro e w9 ⟨rfl, kq, os, rfl⟩
     have HB9 := Lib.hid (below_step HBW.out (Lib.below_grow wr.heap.size wr (Nat.le_refl _) kq os))
     clear TI
     go_wp2_with fail
     go_ret
     rw [HE.out, HI.out]
     exact ⟨rfl, HB9.out⟩
    ·have q1 : (v.type == 1) = false := beq_eq_false_iff_ne.2 h1
     have TP := Lib.hid (print_any v HVN.out.2 wr HTR.out)
     unfold PrintSays at TP
     rw [if_pos hv, hv, errV_zero] at TP
     clear h1
     go_wp2_with fail
     refine (TP.out).mono ?_
     rintro e w9 ⟨rfl, hb9⟩
     have HB9 := Lib.hid (below_step HBW.out hb9)
     clear hb9 TP
     go_wp2_with fail
     go_ret
     rw [HE.out]
     exact ⟨rfl, HB9.out⟩
   | len g h0 =>
    have o0 : (op.toList == [99, 111, 108]) = false := op_no g (by decide)
    have o1 : (op.toList == [118, 97, 108]) = false := op_no g (by decide)
    have ot : (op.toList == [108, 101, 110]) = true := by rw [Lib.toList_data]; exact beq_iff_eq.2 g
    have hjl : (Lib.join ts [44, 32]).length ≤ 140737488355328 := by have := lensT_join ts; have := HLT.out; have := HTL.out; omega
    have hmp : (ts.map txB).map (·.data.toList) = ts := by rw [List.map_map]; exact List.map_id' _
    have TJ := Lib.hid (fun (w' : World) (hb' : Below wr.heap.size wr w') => join_seen sA k sc (ts.map txB) ⟨#[44, 32]⟩ w' (HSS.out.keep hb') (by omega) (by rw [hmp]; exact hjl))
    have HE := Lib.hid (show txB (exText (.mk op name v A c args pos)) = (((op ++ ⟨#[40]⟩) ++ ⟨(Lib.join ((ts.map txB).map (·.data.toList)) [44, 32]).toArray⟩) ++ ⟨#[41]⟩) by
     rw [HEX.out, nodeText_len g, hmp, bytes_of g]
     apply ByteArray.ext
     apply Array.toList_inj.1
     simp [txB, mkB])
    have hjs : (⟨(Lib.join ((ts.map txB).map (·.data.toList)) [44, 32]).toArray⟩ : ByteArray).size ≤ 60000 := by
     rw [hmp]
     have e : (⟨(Lib.join ts [44, 32]).toArray⟩ : ByteArray).size = (Lib.join ts [44, 32]).length := by rw [← size_eq]
     have := lensT_join ts; have := HLT.out; have := HTL.out
     omega
    have hos : op.size = 3 := by rw [bytes_of g]; rfl
    generalize (⟨(Lib.join ((ts.map txB).map (·.data.toList)) [44, 32]).toArray⟩ : ByteArray) = js at TJ HE hjs
    clear hmp hjl
    have HXC := Lib.hid (show ∀ w', Below wr.heap.size wr w' → w'.cell? ⟨w.heap.size, 0, none⟩ = some (.string op) from fun w' hb' => (hb'.cell (p := ⟨w.heap.size, 0, none⟩) (World.block_lt_of_cell? wr _ hx1)).trans hx1)
    go_wp2_with fail
    refine wp_region_held (S := fun w' => w'.cell? ⟨w.heap.size, 0, none⟩ = some (.string op)) (by kernel_rfl) ?_
    change wpAnyH _ _ _ _ _ _ _ _ (World.drew wr)
    have HS1 : (fun w' : World => w'.cell? ⟨w.heap.size, 0, none⟩ = some (.string op)) (World.drew wr) := HXC.out _ (Below.refl _ _).drew
    refine takeH (i := 0) (d := some 47) (v := .pointer (some ⟨w.heap.size, 0, none⟩)) rfl rfl (by kernel_rfl) (by kernel_rfl) (by kernel_rfl) (fun _ _ _ h => h) (Or.inl ⟨by rfl, fun w' hS => by have hS' : w'.cell? ⟨w.heap.size, 0, none⟩ = some (.string op) := hS; first | (go_simp; done) | (go_simp; omega)⟩) HS1 ?_
    simp only [Act.put, List.setIfInBounds_toArray, List.set_cons_zero, List.set_cons_succ]
    refine takeH (i := 1) (d := some 48) (v := .string op) rfl rfl (by kernel_rfl) (by kernel_rfl) (by kernel_rfl) (fun _ _ _ h => h) (Or.inl ⟨by rfl, fun w' hS => by have hS' : w'.cell? ⟨w.heap.size, 0, none⟩ = some (.string op) := hS; first | (go_simp; done) | (go_simp; omega)⟩) HS1 ?_
    simp only [Act.put, List.setIfInBounds_toArray, List.set_cons_zero, List.set_cons_succ]
    refine takeH (i := 2) (d := some 49) (v := .string (op ++ ⟨#[40]⟩)) rfl rfl (by kernel_rfl) (by kernel_rfl) (by kernel_rfl) (fun _ _ _ h => h) (Or.inl ⟨by rfl, fun w' hS => by have hS' : w'.cell? ⟨w.heap.size, 0, none⟩ = some (.string op) := hS; first | (go_simp; done) | (go_simp; omega)⟩) HS1 ?_
    simp only [Act.put, List.setIfInBounds_toArray, List.set_cons_zero, List.set_cons_succ]
    refine takeH (i := 3) (d := some 50) (v := .slice sA k sc) rfl rfl (by kernel_rfl) (by kernel_rfl) (by kernel_rfl) (fun _ _ _ h => h) (Or.inl ⟨by rfl, fun w' hS => by have hS' : w'.cell? ⟨w.heap.size, 0, none⟩ = some (.string op) := hS; first | (go_simp; done) | (go_simp; omega)⟩) HS1 ?_
    simp only [Act.put, List.setIfInBounds_toArray, List.set_cons_zero, List.set_cons_succ]
    refine wpAnyH_all (rs := [4]) (by kernel_rfl) (by simp) (fun jj hj => ?_)
    obtain rfl : jj = 4 := by simpa using hj
    refine wpOp_returnsD (d := some 51) rfl rfl (by rfl) (f := 114) (args := #[.slice sA k sc, .string ⟨#[44, 32]⟩]) (by go_simp) (TJ.out (World.drew wr) (Below.refl _ _).drew) ?_
    rintro e w9 ⟨rfl, hb9⟩
    have hb9' : Below wr.heap.size wr w9 := (Below.refl wr.heap.size wr).drew.trans hb9
    have HS2 : (fun w' : World => w'.cell? ⟨w.heap.size, 0, none⟩ = some (.string op)) w9 := HXC.out _ hb9'
    refine ⟨_, rfl, HS2, ?_⟩
    simp only [Act.put, List.setIfInBounds_toArray, List.set_cons_zero, List.set_cons_succ]
    refine takeH (i := 5) (d := some 52) (v := .string ((op ++ ⟨#[40]⟩) ++ js)) rfl rfl (by kernel_rfl) (by kernel_rfl) (by kernel_rfl) (fun _ _ _ h => h) (Or.inl ⟨by rfl, fun w' hS => by have hS' : w'.cell? ⟨w.heap.size, 0, none⟩ = some (.string op) := hS; first | (go_simp; done) | (go_simp; omega)⟩) HS2 ?_
    simp only [Act.put, List.setIfInBounds_toArray, List.set_cons_zero, List.set_cons_succ]
    refine takeH (i := 6) (d := some 53) (v := .string (((op ++ ⟨#[40]⟩) ++ js) ++ ⟨#[41]⟩)) rfl rfl (by kernel_rfl) (by kernel_rfl) (by kernel_rfl) (fun _ _ _ h => h) (Or.inl ⟨by rfl, fun w' hS => by have hS' : w'.cell? ⟨w.heap.size, 0, none⟩ = some (.string op) := hS; first | (go_simp; done) | (go_simp; omega)⟩) HS2 ?_
    simp only [Act.put, List.setIfInBounds_toArray, List.set_cons_zero, List.set_cons_succ]
    refine wpAnyH_all (rs := [7]) (by kernel_rfl) (by simp) (fun jj hj => ?_)
    obtain rfl : jj = 7 := by simpa using hj
    refine wpOp_valueD (d := some 2) rfl rfl (by rfl) (v := .string (((op ++ ⟨#[40]⟩) ++ js) ++ ⟨#[41]⟩)) (w' := w9) (by go_simp) ?_
    refine ⟨HS2, ?_⟩
    refine wpAnyH_done (by kernel_rfl) ?_ _
    simp only [Act.put, List.setIfInBounds_toArray, List.set_cons_zero, List.set_cons_succ]
    have HB9 := Lib.hid (below_step HBW.out hb9')
    clear hb9 hb9' HS1 HS2 TJ
    go_wp2_with fail
    go_ret
    rw [HE.out]
    exact ⟨rfl, HB9.out⟩
   | if_ g h0 =>
    have o0 : (op.toList == [99, 111, 108]) = false := op_no g (by decide)
    have o1 : (op.toList == [118, 97, 108]) = false := op_no g (by decide)
    have o2 : (op.toList == [108, 101, 110]) = false := op_no g (by decide)
    have ot : (op.toList == [105, 102]) = true := by rw [Lib.toList_data]; exact beq_iff_eq.2 g
    have hjl : (Lib.join ts [44, 32]).length ≤ 140737488355328 := by have := lensT_join ts; have := HLT.out; have := HTL.out; omega
    have hmp : (ts.map txB).map (·.data.toList) = ts := by rw [List.map_map]; exact List.map_id' _
    have TJ := Lib.hid (fun (w' : World) (hb' : Below wr.heap.size wr w') => join_seen sA k sc (ts.map txB) ⟨#[44, 32]⟩ w' (HSS.out.keep hb') (by omega) (by rw [hmp]; exact hjl))
    have HE := Lib.hid (show txB (exText (.mk op name v A c args pos)) = (((op ++ ⟨#[40]⟩) ++ ⟨(Lib.join ((ts.map txB).map (·.data.toList)) [44, 32]).toArray⟩) ++ ⟨#[41]⟩) by
     rw [HEX.out, nodeText_if g, hmp, bytes_of g]
     apply ByteArray.ext
     apply Array.toList_inj.1
     simp [txB, mkB])
    have hjs : (⟨(Lib.join ((ts.map txB).map (·.data.toList)) [44, 32]).toArray⟩ : ByteArray).size ≤ 60000 := by
     rw [hmp]
     have e : (⟨(Lib.join ts [44, 32]).toArray⟩ : ByteArray).size = (Lib.join ts [44, 32]).length := by rw [← size_eq]
     have := lensT_join ts; have := HLT.out; have := HTL.out
     omega
    have hos : op.size = 2 := by rw [bytes_of g]; rfl
    generalize (⟨(Lib.join ((ts.map txB).map (·.data.toList)) [44, 32]).toArray⟩ : ByteArray) = js at TJ HE hjs
    clear hmp hjl
    have HXC := Lib.hid (show ∀ w', Below wr.heap.size wr w' → w'.cell? ⟨w.heap.size, 0, none⟩ = some (.string op) from fun w' hb' => (hb'.cell (p := ⟨w.heap.size, 0, none⟩) (World.block_lt_of_cell? wr _ hx1)).trans hx1)
    go_wp2_with fail
    refine wp_region_held (S := fun w' => w'.cell? ⟨w.heap.size, 0, none⟩ = some (.string op)) (by kernel_rfl) ?_
    change wpAnyH _ _ _ _ _ _ _ _ (World.drew wr)
    have HS1 : (fun w' : World => w'.cell? ⟨w.heap.size, 0, none⟩ = some (.string op)) (World.drew wr) := HXC.out _ (Below.refl _ _).drew
    refine takeH (i := 0) (d := some 47) (v := .pointer (some ⟨w.heap.size, 0, none⟩)) rfl rfl (by kernel_rfl) (by kernel_rfl) (by kernel_rfl) (fun _ _ _ h => h) (Or.inl ⟨by rfl, fun w' hS => by have hS' : w'.cell? ⟨w.heap.size, 0, none⟩ = some (.string op) := hS; first | (go_simp; done) | (go_simp; omega)⟩) HS1 ?_
    simp only [Act.put, List.setIfInBounds_toArray, List.set_cons_zero, List.set_cons_succ]
    refine takeH (i := 1) (d := some 48) (v := .string op) rfl rfl (by kernel_rfl) (by kernel_rfl) (by kernel_rfl) (fun _ _ _ h => h) (Or.inl ⟨by rfl, fun w' hS => by have hS' : w'.cell? ⟨w.heap.size, 0, none⟩ = some (.string op) := hS; first | (go_simp; done) | (go_simp; omega)⟩) HS1 ?_
    simp only [Act.put, List.setIfInBounds_toArray, List.set_cons_zero, List.set_cons_succ]
    refine takeH (i := 2) (d := some 49) (v := .string (op ++ ⟨#[40]⟩)) rfl rfl (by kernel_rfl) (by kernel_rfl) (by kernel_rfl) (fun _ _ _ h => h) (Or.inl ⟨by rfl, fun w' hS => by have hS' : w'.cell? ⟨w.heap.size, 0, none⟩ = some (.string op) := hS; first | (go_simp; done) | (go_simp; omega)⟩) HS1 ?_
    simp only [Act.put, List.setIfInBounds_toArray, List.set_cons_zero, List.set_cons_succ]
    refine takeH (i := 3) (d := some 50) (v := .slice sA k sc) rfl rfl (by kernel_rfl) (by kernel_rfl) (by kernel_rfl) (fun _ _ _ h => h) (Or.inl ⟨by rfl, fun w' hS => by have hS' : w'.cell? ⟨w.heap.size, 0, none⟩ = some (.string op) := hS; first | (go_simp; done) | (go_simp; omega)⟩) HS1 ?_
    simp only [Act.put, List.setIfInBounds_toArray, List.set_cons_zero, List.set_cons_succ]
    refine wpAnyH_all (rs := [4]) (by kernel_rfl) (by simp) (fun jj hj => ?_)
    obtain rfl : jj = 4 := by simpa using hj
    refine wpOp_returnsD (d := some 51) rfl rfl (by rfl) (f := 114) (args := #[.slice sA k sc, .string ⟨#[44, 32]⟩]) (by go_simp) (TJ.out (World.drew wr) (Below.refl _ _).drew) ?_
    rintro e w9 ⟨rfl, hb9⟩
    have hb9' : Below wr.heap.size wr w9 := (Below.refl wr.heap.size wr).drew.trans hb9
    have HS2 : (fun w' : World => w'.cell? ⟨w.heap.size, 0, none⟩ = some (.string op)) w9 := HXC.out _ hb9'
    refine ⟨_, rfl, HS2, ?_⟩
    simp only [Act.put, List.setIfInBounds_toArray, List.set_cons_zero, List.set_cons_succ]
    refine takeH (i := 5) (d := some 52) (v := .string ((op ++ ⟨#[40]⟩) ++ js)) rfl rfl (by kernel_rfl) (by kernel_rfl) (by kernel_rfl) (fun _ _ _ h => h) (Or.inl ⟨by rfl, fun w' hS => by have hS' : w'.cell? ⟨w.heap.size, 0, none⟩ = some (.string op) := hS; first | (go_simp; done) | (go_simp; omega)⟩) HS2 ?_
    simp only [Act.put, List.setIfInBounds_toArray, List.set_cons_zero, List.set_cons_succ]
    refine takeH (i := 6) (d := some 53) (v := .string (((op ++ ⟨#[40]⟩) ++ js) ++ ⟨#[41]⟩)) rfl rfl (by kernel_rfl) (by kernel_rfl) (by kernel_rfl) (fun _ _ _ h => h) (Or.inl ⟨by rfl, fun w' hS => by have hS' : w'.cell? ⟨w.heap.size, 0, none⟩ = some (.string op) := hS; first | (go_simp; done) | (go_simp; omega)⟩) HS2 ?_
    simp only [Act.put, List.setIfInBounds_toArray, List.set_cons_zero, List.set_cons_succ]
    refine wpAnyH_all (rs := [7]) (by kernel_rfl) (by simp) (fun jj hj => ?_)
    obtain rfl : jj = 7 := by simpa using hj
    refine wpOp_valueD (d := some 2) rfl rfl (by rfl) (v := .string (((op ++ ⟨#[40]⟩) ++ js) ++ ⟨#[41]⟩)) (w' := w9) (by go_simp) ?_
    refine ⟨HS2, ?_⟩
    refine wpAnyH_done (by kernel_rfl) ?_ _
    simp only [Act.put, List.setIfInBounds_toArray, List.set_cons_zero, List.set_cons_succ]
    have HB9 := Lib.hid (below_step HBW.out hb9')
    clear hb9 hb9' HS1 HS2 TJ
    go_wp2_with fail
    go_ret
    rw [HE.out]
    exact ⟨rfl, HB9.out⟩
   | not g h0 =>
    have o0 : (op.toList == [99, 111, 108]) = false := op_no g (by decide)
    have o1 : (op.toList == [118, 97, 108]) = false := op_no g (by decide)
    have o2 : (op.toList == [108, 101, 110]) = false := op_no g (by decide)
    have o3 : (op.toList == [105, 102]) = false := op_no g (by decide)
    have ot : (op.toList == [110, 111, 116]) = true := by rw [Lib.toList_data]; exact beq_iff_eq.2 g
    have hk0 : 0 < k := by have h := HNN.out; omega
    clear h0
    obtain ⟨sg, so, z, rfl, hz, hzc⟩ := strs_at' HSS.out (k := 0) hk0
    rw [Nat.add_zero] at hzc
    obtain ⟨t0, ht0, hzt⟩ : ∃ t0, ts[0]? = some t0 ∧ txB t0 = z := by rw [List.getElem?_map] at hz; cases ht : ts[0]? with | none => (rw [ht] at hz; cases hz) | some t => (rw [ht] at hz; injection hz with hz; exact ⟨t, rfl, hz⟩)
    have HE := Lib.hid (show txB (exText (.mk op name v A c args pos)) = ((⟨#[40, 110, 111, 116, 32]⟩ ++ z) ++ ⟨#[41]⟩) by
     rw [HEX.out, nodeText_not g, ← hzt, List.getD_eq_getElem?_getD, ht0]
     apply ByteArray.ext
     apply Array.toList_inj.1
     simp [txB])
    have hzs : z.size ≤ 48000 := by
     rw [← hzt]
     have := lensT_at ts 0
     rw [List.getD_eq_getElem?_getD, ht0] at this
     have e : (txB t0).size = t0.length := rfl
     have h' : t0.length ≤ lensT ts := this
     have := HLT.out
     omega
    clear hz ht0 hzt
    go_wp2_with fail
    go_ret
    rw [HE.out]
    exact ⟨rfl, HBW.out⟩
   | neg g h0 =>
    have o0 : (op.toList == [99, 111, 108]) = false := op_no g (by decide)
    have o1 : (op.toList == [118, 97, 108]) = false := op_no g (by decide)
    have o2 : (op.toList == [108, 101, 110]) = false := op_no g (by decide)
    have o3 : (op.toList == [105, 102]) = false := op_no g (by decide)
    have o4 : (op.toList == [110, 111, 116]) = false := op_no g (by decide)
    have ot : (op.toList == [110, 101, 103]) = true := by rw [Lib.toList_data]; exact beq_iff_eq.2 g
    have hk0 : 0 < k := by have h := HNN.out; omega
    clear h0
    obtain ⟨sg, so, z, rfl, hz, hzc⟩ := strs_at' HSS.out (k := 0) hk0
    rw [Nat.add_zero] at hzc
    obtain ⟨t0, ht0, hzt⟩ : ∃ t0, ts[0]? = some t0 ∧ txB t0 = z := by rw [List.getElem?_map] at hz; cases ht : ts[0]? with | none => (rw [ht] at hz; cases hz) | some t => (rw [ht] at hz; injection hz with hz; exact ⟨t, rfl, hz⟩)
    have HE := Lib.hid (show txB (exText (.mk op name v A c args pos)) = ((⟨#[40, 45, 32]⟩ ++ z) ++ ⟨#[41]⟩) by
     rw [HEX.out, nodeText_neg g, ← hzt, List.getD_eq_getElem?_getD, ht0]
     apply ByteArray.ext
     apply Array.toList_inj.1
     simp [txB])
    have hzs : z.size ≤ 48000 := by
     rw [← hzt]
     have := lensT_at ts 0
     rw [List.getD_eq_getElem?_getD, ht0] at this
     have e : (txB t0).size = t0.length := rfl
     have h' : t0.length ≤ lensT ts := this
     have := HLT.out
     omega
    clear hz ht0 hzt
    go_wp2_with fail
    go_ret
    rw [HE.out]
    exact ⟨rfl, HBW.out⟩
   | sign g1 g2 g3 g4 g5 g6 hs h0 =>
    have o0 : (op.toList == [99, 111, 108]) = false := by rw [Lib.toList_data]; exact beq_eq_false_iff_ne.2 g1
    have o1 : (op.toList == [118, 97, 108]) = false := by rw [Lib.toList_data]; exact beq_eq_false_iff_ne.2 g2
    have o2 : (op.toList == [108, 101, 110]) = false := by rw [Lib.toList_data]; exact beq_eq_false_iff_ne.2 g3
    have o3 : (op.toList == [105, 102]) = false := by rw [Lib.toList_data]; exact beq_eq_false_iff_ne.2 g4
    have o4 : (op.toList == [110, 111, 116]) = false := by rw [Lib.toList_data]; exact beq_eq_false_iff_ne.2 g5
    have o5 : (op.toList == [110, 101, 103]) = false := by rw [Lib.toList_data]; exact beq_eq_false_iff_ne.2 g6
    have hk0 : 0 < k := by have h := HNN.out; omega
    have hk1 : 1 < k := by have h := HNN.out; omega
    clear h0
    obtain ⟨sg, so, z, rfl, hz, hzc⟩ := strs_at' HSS.out (k := 0) hk0
    rw [Nat.add_zero] at hzc
    obtain ⟨sg', so', z2, e2, hz2, hzc2⟩ := strs_at' HSS.out (k := 1) hk1
    injection e2 with e2
    injection e2 with e2 e3
    subst e2 e3
    obtain ⟨t0, ht0, hzt⟩ : ∃ t0, ts[0]? = some t0 ∧ txB t0 = z := by rw [List.getElem?_map] at hz; cases ht : ts[0]? with | none => (rw [ht] at hz; cases hz) | some t => (rw [ht] at hz; injection hz with hz; exact ⟨t, rfl, hz⟩)
    obtain ⟨t1, ht1, hzt1⟩ : ∃ t1, ts[1]? = some t1 ∧ txB t1 = z2 := by rw [List.getElem?_map] at hz2; cases ht : ts[1]? with | none => (rw [ht] at hz2; cases hz2) | some t => (rw [ht] at hz2; injection hz2 with hz2; exact ⟨t, rfl, hz2⟩)
    have HE := Lib.hid (show txB (exText (.mk op name v A c args pos)) = ((((((⟨#[40]⟩ ++ z) ++ ⟨#[32]⟩) ++ op) ++ ⟨#[32]⟩) ++ z2) ++ ⟨#[41]⟩) by
     rw [HEX.out, nodeText_sign g1 g2 g3 g4 g5 g6, ← hzt, ← hzt1, List.getD_eq_getElem?_getD, List.getD_eq_getElem?_getD, ht0, ht1]
     apply ByteArray.ext
     apply Array.toList_inj.1
     simp [txB])
    have hzs : z.size ≤ 48000 ∧ z2.size ≤ 48000 := by
     rw [← hzt, ← hzt1]
     have h0' := lensT_at ts 0
     have h1' := lensT_at ts 1
     rw [List.getD_eq_getElem?_getD, ht0] at h0'
     rw [List.getD_eq_getElem?_getD, ht1] at h1'
     have e0 : (txB t0).size = t0.length := rfl
     have e1 : (txB t1).size = t1.length := rfl
     have h0'' : t0.length ≤ lensT ts := h0'
     have h1'' : t1.length ≤ lensT ts := h1'
     have := HLT.out
     omega
    obtain ⟨hzs, hzs2⟩ := hzs
    have hos := sign_len hs
    clear hz ht0 hzt hz2 ht1 hzt1 hs
    go_wp2_with fail
    go_quiet (fail)
    have HBQ := Lib.hid (below_drewN HBW.out nq)
    generalize wr.drewN nq = wq at HBQ ⊢
    go_wp2_with fail
    go_ret
    rw [HE.out]
    exact ⟨rfl, HBQ.out⟩
theorem shown_any : ∀ m : Nat, ShownAt m
 | 0 => fun e hm => by cases e; simp at hm
 | m + 1 => fun e hm hk hN w hT hx => by
  obtain ⟨op, name, v, A, c, args, pos⟩ := e
  exact shown_step m (shown_any m) op name v A c args pos hm hk hN w hT hx
def PrintESays (e : Ex) (w : World) (r : Ending) (w' : World) : Prop := r = .returned (.tuple #[.string (if checkErr e = 0 then txB (exText e) else ⟨#[]⟩), errV (checkErr e)]) ∧ Below w.heap.size w w'
set_option maxHeartbeats 2000000 in
set_option maxRecDepth 100000 in
theorem printE_any (e : Ex) (w : World) (hL : LevelsT w) (hW : WordsT w) (hT : TextT w) (he : SeesEx w e) : Calls Tryz.prog 113 #[exV e] w (PrintESays e w) := by
 obtain ⟨w1, hw1, ho1, hb1, hs1⟩ := box_ex w e
 have T1 := Lib.hid (check_any e w1 (hL.keep hb1) (hW.keep hb1) (he.keep hb1))
 have HW1 := Lib.hid hw1
 have HB1 := Lib.hid hb1
 have HO1 := Lib.hid ho1
 have HEE := Lib.hid (he.keep hb1)
 have HTT := Lib.hid (hT.keep hb1)
 obtain ⟨x0, x1, x2, x3, x4, x5, x6⟩ := ho1.cells
 have hl1 := ho1.lt
 have HLN := Lib.hid (fun hc : checkErr e = 0 => show nodesErr e = 0 ∧ exN e ≤ 400 from by
  obtain ⟨h1, h2, h3⟩ := checkErr_ok hc
  have := (size_ok 30 (Nat.le_refl _) e h2 h3).1
  exact ⟨h3, by omega⟩)
 unfold PrintESays
 unfold exV at T1 ⊢
 clear hw1 ho1 hb1 hs1 hL hW hT he
 by_cases hc : checkErr e = 0
 ·have T2 := Lib.hid (fun (w' : World) (hb : Below w1.heap.size w1 w') => shown_any _ e (Nat.le_refl _) (HLN.out hc).1 (HLN.out hc).2 w' (HTT.out.keep hb) (HEE.out.keep hb))
  unfold NodeSays at T1
  rw [hc, errV_zero] at T1
  rw [if_pos hc, hc, errV_zero]
  unfold exV at T2
  clear hc HLN
  go_enter Tryz.func113, Tryz.ntmps113
  go_wp2_with (first | rw [HW1.out])
  refine (T1.out).mono ?_
  rintro e' w2 ⟨rfl, hb2⟩
  have HB2 := Lib.hid hb2
  obtain ⟨y0, y1, y2, y3, y4, y5, y6⟩ := (HO1.out.keep hb2).cells
  have hl2 := (HO1.out.keep hb2).lt
  have T3 := Lib.hid (T2.out w2 hb2)
  clear hb2 T1
  go_wp2_with fail
  refine (T3.out).mono ?_
  rintro e' w3 ⟨rfl, hb3⟩
  have HB3 := Lib.hid (below_step (below_step HB1.out HB2.out) hb3)
  clear hb3 T3
  go_wp2_with fail
  go_ret2
  exact ⟨rfl, HB3.out⟩
 ·unfold NodeSays at T1
  rw [errV_ne hc] at T1
  rw [if_neg hc, errV_ne hc]
  generalize checkErr e = k at T1 ⊢
  clear hc HLN
  go_enter Tryz.func113, Tryz.ntmps113
  go_wp2_with (first | rw [HW1.out])
  refine (T1.out).mono ?_
  rintro e' w2 ⟨rfl, hb2⟩
  have HB2 := Lib.hid (below_step HB1.out hb2)
  clear hb2 T1
  go_wp2_with fail
  go_ret2
  exact ⟨rfl, HB2.out⟩
end Go.Proofs.YtpbbkpfaphjdoaaGreatDoor
namespace Go.Proofs.YtpbbkpfaphjdoaaGreatDoor
open Go.ChangeShapes Go.WideShapes Go.ChangeAt Go.RowKit
end Go.Proofs.YtpbbkpfaphjdoaaGreatDoor
