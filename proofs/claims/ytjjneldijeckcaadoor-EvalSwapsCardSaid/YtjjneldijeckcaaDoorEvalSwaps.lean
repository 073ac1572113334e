/- Of the law EvalSwaps: the card Rows.EvalSwapsCardSaid, without any condition: whatever the two values, it returns true. -/
import Derived.Test.YtjjneldijeckcaaDoorFrame
import Derived.Test.YtjjneldijeckcaaDoorDo
import Derived.Test.YtjjneldijeckcaaDoorCards
import Derived.Test.YtjjneldijeckcaaDoorTie
import Derived.Test.YtjjneldijeckcaaDoorOpenVals
import Derived.LaidLaws
import Derived.LaidMore
import Derived.LaidHandle
import Derived.Stop.Joined
import Derived.SevenTiedAt
import Derived.Deep.DeepWitnessRowRef
import Derived.Deep.DeepHandedRow
namespace Go.Proofs.YtjjneldijeckcaaDoor.evalSwaps
open Go.ChangeShapes Go.WideShapes Go.ChangeAt Go.RowKit

def opA (k : Nat) : ByteArray := [⟨#[43]⟩, ⟨#[42]⟩, ⟨#[61]⟩, ⟨#[60, 62]⟩, ⟨#[60]⟩, ⟨#[60, 61]⟩].getD k ⟨#[]⟩
def opZ (k : Nat) : ByteArray := [⟨#[43]⟩, ⟨#[42]⟩, ⟨#[61]⟩, ⟨#[60, 62]⟩, ⟨#[62]⟩, ⟨#[62, 61]⟩].getD k ⟨#[]⟩

theorem compareInt_swap (a b : Int) : Lib.compareInt b a = -Lib.compareInt a b := by
  unfold Lib.compareInt
  by_cases h : a < b
  · rw [if_neg (by omega), if_pos (by omega), if_pos h]; rfl
  · by_cases h2 : b < a
    · rw [if_pos h2, if_neg h, if_pos h2]
    · rw [if_neg h2, if_neg (by omega), if_neg h, if_neg (by omega)]; rfl
theorem compareBytes_swap : ∀ a b : List UInt8, Lib.compareBytes b a = -Lib.compareBytes a b
  | [], [] => rfl
  | [], _ :: _ => rfl
  | _ :: _, [] => rfl
  | x :: a, y :: b => by
    have ih := compareBytes_swap a b
    unfold Lib.compareBytes
    by_cases h : x < y
    · have h2 : ¬ y < x := by rw [UInt8.lt_iff_toNat_lt] at h ⊢; omega
      rw [if_neg h2, if_pos h, if_pos h]; rfl
    · by_cases h2 : y < x
      · rw [if_pos h2, if_neg h, if_pos h2]
      · rw [if_neg h2, if_neg h, if_neg h, if_neg h2]; exact ih
theorem vorder_swap {a b : Val} (h : a.type = b.type) : vorder b a = -vorder a b := by
  unfold vorder
  rw [h]
  split
  · exact compareBytes_swap _ _
  · exact compareInt_swap _ _
theorem numV_add (a b : Int) : numV (reckonErr [43] b a) (reckonVal [43] b a) = numV (reckonErr [43] a b) (reckonVal [43] a b) ∧ reckonErr [43] b a = reckonErr [43] a b := by
  unfold reckonErr reckonVal exact_; simp [Int.add_comm]
theorem numV_mul (a b : Int) : numV (reckonErr [42] b a) (reckonVal [42] b a) = numV (reckonErr [42] a b) (reckonVal [42] a b) ∧ reckonErr [42] b a = reckonErr [42] a b := by
  unfold reckonErr reckonVal exact_; simp [Int.mul_comm]
theorem bad_two (a b : Val) : firstBad [a, b] = 0 ↔ vcheck a = 0 ∧ vcheck b = 0 := by
  unfold firstBad firstBad firstBad
  by_cases h : vcheck a = 0
  · rw [if_pos h]
    by_cases h2 : vcheck b = 0
    · simp [h, h2]
    · simp [h2]
  · rw [if_neg h]; simp [h]
theorem rule_two {s : ByteArray} (x y : Int) (h1 : isOpB s = true) (h2 : arityOf s = 2) :
    ruleErr s [x, y] = if noType x = true ∨ noType y = true then 1 else if fitsGrp (grp s) [x, y] = true then 0 else 8 := by
  unfold ruleErr
  rw [h1, h2]
  by_cases h : noType x = true ∨ noType y = true
  · rw [if_pos h, if_pos (Or.inr (by simpa using h))]
  · rw [if_neg h, if_neg (by simpa using h), if_neg (by simp)]
theorem fits4 (x y : Int) : fitsGrp 4 [x, y] = fitsGrp 4 [y, x] := by
  unfold fitsGrp allThe; simp [Bool.or_comm]
theorem fits1 (x y : Int) : fitsGrp 1 [x, y] = fitsGrp 1 [y, x] := by
  show (x == y) = (y == x)
  by_cases h : x = y
  · subst h; rfl
  · have h2 : ¬ y = x := fun e => h e.symm
    rw [beq_eq_false_iff_ne.2 h, beq_eq_false_iff_ne.2 h2]
theorem rule_swap {s t : ByteArray} (x y : Int) (h1 : isOpB s = true) (h2 : arityOf s = 2) (g1 : isOpB t = true) (g2 : arityOf t = 2) (hg : grp s = grp t) (hf : fitsGrp (grp s) [x, y] = fitsGrp (grp s) [y, x]) :
    ruleErr t [y, x] = ruleErr s [x, y] := by
  rw [rule_two y x g1 g2, rule_two x y h1 h2, ← hg, hf]
  by_cases e1 : noType x = true <;> by_cases e2 : noType y = true <;> simp [e1, e2]
theorem rule_at {k : Nat} (hk : k < 6) (x y : Int) : ruleErr (opZ k) [y, x] = ruleErr (opA k) [x, y] := by
  obtain rfl | rfl | rfl | rfl | rfl | rfl : k = 0 ∨ k = 1 ∨ k = 2 ∨ k = 3 ∨ k = 4 ∨ k = 5 := by omega
  · exact rule_swap x y (by decide) (by decide) (by decide) (by decide) (by decide) (fits4 x y)
  · exact rule_swap x y (by decide) (by decide) (by decide) (by decide) (by decide) (fits4 x y)
  all_goals exact rule_swap x y (by decide) (by decide) (by decide) (by decide) (by decide) (fits1 x y)
theorem apply_at {k : Nat} (hk : k < 6) (a b : Val) (h : ruleErr (opA k) (typesOf [a, b]) = 0) : applyVal (opZ k) [b, a] = applyVal (opA k) [a, b] ∧ applyErr (opZ k) [b, a] = applyErr (opA k) [a, b] := by
  have hf := (ruleErr_ok h).2.2
  obtain rfl | rfl | rfl | rfl | rfl | rfl : k = 0 ∨ k = 1 ∨ k = 2 ∨ k = 3 ∨ k = 4 ∨ k = 5 := by omega
  · exact numV_add a.n b.n
  · exact numV_mul a.n b.n
  all_goals
    have ht : a.type = b.type := by
      have : fitsGrp 1 [a.type, b.type] = true := hf
      simpa [fitsGrp] using this
    have hs := vorder_swap ht
  · refine ⟨show truthV (vorder b a == 0) = truthV (vorder a b == 0) from ?_, rfl⟩
    rw [hs]; congr 1; rw [Bool.eq_iff_iff]; simp
  · refine ⟨show truthV (vorder b a != 0) = truthV (vorder a b != 0) from ?_, rfl⟩
    rw [hs]; congr 1; rw [Bool.eq_iff_iff]; simp
  · refine ⟨show truthV (decide (0 < vorder b a)) = truthV (decide (vorder a b < 0)) from ?_, rfl⟩
    rw [hs]; congr 1; rw [Bool.eq_iff_iff]; simp
  · refine ⟨show truthV (decide (0 ≤ vorder b a)) = truthV (decide (vorder a b ≤ 0)) from ?_, rfl⟩
    rw [hs]; congr 1; rw [Bool.eq_iff_iff]; simp
theorem do_bad {s : ByteArray} {l : List Val} (h : firstBad l ≠ 0) : doVal s l = noVal ∧ doErr s l = firstBad l := by unfold doVal doErr; rw [if_pos h, if_pos h]; exact ⟨rfl, rfl⟩
theorem do_rule {s : ByteArray} {l : List Val} (h : firstBad l = 0) (hr : ruleErr s (typesOf l) ≠ 0) : doVal s l = noVal ∧ doErr s l = ruleErr s (typesOf l) := by
  unfold doVal doErr; rw [if_neg (fun e => e h), if_pos hr, if_neg (fun e => e h), if_pos hr]; exact ⟨rfl, rfl⟩
theorem do_ok {s : ByteArray} {l : List Val} (h : firstBad l = 0) (hr : ruleErr s (typesOf l) = 0) : doVal s l = applyVal s l ∧ doErr s l = applyErr s l := by
  unfold doVal doErr; rw [if_neg (fun e => e h), if_neg (fun e => e hr), if_neg (fun e => e h), if_neg (fun e => e hr)]; exact ⟨rfl, rfl⟩
/-- EITHER WAY ROUND. -/
theorem swaps {k : Nat} (hk : k < 6) (a b : Val) : doVal (opZ k) [b, a] = doVal (opA k) [a, b] ∧ (doErr (opZ k) [b, a] = 0 ↔ doErr (opA k) [a, b] = 0) := by
  by_cases hb : firstBad [a, b] = 0
  · have hb2 : firstBad [b, a] = 0 := (bad_two b a).2 ((bad_two a b).1 hb).symm
    have hr2 : ruleErr (opZ k) (typesOf [b, a]) = ruleErr (opA k) (typesOf [a, b]) := rule_at hk a.type b.type
    by_cases hr : ruleErr (opA k) (typesOf [a, b]) = 0
    · obtain ⟨h1, h2⟩ := apply_at hk a b hr
      rw [(do_ok hb hr).1, (do_ok hb hr).2, (do_ok hb2 (hr2.trans hr)).1, (do_ok hb2 (hr2.trans hr)).2, h1, h2]
      exact ⟨rfl, Iff.rfl⟩
    · have hr3 : ruleErr (opZ k) (typesOf [b, a]) ≠ 0 := by rw [hr2]; exact hr
      rw [(do_rule hb hr).1, (do_rule hb hr).2, (do_rule hb2 hr3).1, (do_rule hb2 hr3).2]
      exact ⟨rfl, ⟨fun h => absurd h hr3, fun h => absurd h hr⟩⟩
  · have hb2 : firstBad [b, a] ≠ 0 := fun h => hb ((bad_two a b).2 ((bad_two b a).1 h).symm)
    rw [(do_bad hb).1, (do_bad hb).2, (do_bad hb2).1, (do_bad hb2).2]
    exact ⟨rfl, ⟨fun h => absurd h hb2, fun h => absurd h hb⟩⟩

theorem sees_row {W : World} {h : Nat} {l : List Val} {fr : Nat × Nat} (hh : W.heap[h]? = some (.cells (valsCells l).toArray 33 fr)) (hm : l.length ≤ maxLen) : SeesVals W (some ⟨h, 0, none⟩) l.length l.length l := by
  refine ⟨rfl, valsCells_length l, Nat.le_refl _, hm, (fun e => by cases e), fun _ => ⟨h, 0, rfl, (Array.getElem?_eq_some_iff.1 hh).1, fun j u hu => ?_⟩⟩
  rw [cell_of_row _ _ _ _ _ _ hh]
  simpa using hu
def opsA : List ByteArray := [⟨#[43]⟩, ⟨#[42]⟩, ⟨#[61]⟩, ⟨#[60, 62]⟩, ⟨#[60]⟩, ⟨#[60, 61]⟩]
def opsZ : List ByteArray := [⟨#[43]⟩, ⟨#[42]⟩, ⟨#[61]⟩, ⟨#[60, 62]⟩, ⟨#[62]⟩, ⟨#[62, 61]⟩]
theorem sees_strs {W : World} {h : Nat} {l : List ByteArray} {fr : Nat × Nat} (hh : W.heap[h]? = some (.cells (strCells l).toArray 9 fr)) (hm : l.length ≤ maxLen) : Sees W (some ⟨h, 0, none⟩) l.length l.length 1 (strCells l) := by
  refine ⟨by simp [strCells], Nat.le_refl _, hm, (fun e => by cases e), fun _ => ⟨h, 0, rfl, (Array.getElem?_eq_some_iff.1 hh).1, fun j u hu => ?_⟩⟩
  rw [cell_of_row _ _ _ _ _ _ hh]
  simpa using hu
/-- What stands throughout the loop. -/
def Inv (w : World) (p q h7 h8 : Nat) (a b : Val) (wx : World) : Prop :=
  Own3 wx p a ∧ Own3 wx q b ∧ Below w.heap.size w wx ∧ Sees wx (some ⟨h7, 0, none⟩) 6 6 1 (strCells opsA) ∧ Sees wx (some ⟨h8, 0, none⟩) 6 6 1 (strCells opsZ)
theorem Inv.keep {w : World} {p q h7 h8 : Nat} {a b : Val} {wx wy : World} (h : Inv w p q h7 h8 a b wx) (hb : Below wx.heap.size wx wy) : Inv w p q h7 h8 a b wy :=
  ⟨h.1.keep hb, h.2.1.keep hb, below_step h.2.2.1 hb, h.2.2.2.1.keep hb, h.2.2.2.2.keep hb⟩
theorem strs_at {W : World} {h k : Nat} {l : List ByteArray} {c : Nat} (hs : Sees W (some ⟨h, 0, none⟩) l.length c 1 (strCells l)) (hk : k < l.length) : W.cell? ⟨h, k, none⟩ = some (.string (l.getD k ⟨#[]⟩)) := by
  obtain ⟨g, o, e, _, hc⟩ := hs.2.2.2.2 (by omega)
  cases e
  have := hc k (.string l[k]) (by rw [strCells_get (List.getElem?_eq_getElem hk)])
  rw [Nat.zero_add] at this
  rw [this, List.getD_eq_getElem?_getD, List.getElem?_eq_getElem hk]; rfl
theorem fact_val : doVal ⟨#[108, 101, 110]⟩ [⟨3, 0, ⟨#[97, 98, 99]⟩⟩] = ofV 3 ∧ doErr ⟨#[108, 101, 110]⟩ [⟨3, 0, ⟨#[97, 98, 99]⟩⟩] = 0 := by decide

set_option maxHeartbeats 4000000 in
set_option maxRecDepth 100000 in
theorem walk (a b : Val) (w : World) (hO : OpsT w) (hT : LevelsT w) (ha : a.wf) (hb : b.wf) :
    Calls Tryd.prog 6 #[valV a, valV b] w fun e w' => e = .returned (.bool true) ∧ Below w.heap.size w w' := by
  have HO := Lib.hid hO
  have HT := Lib.hid hT
  have HA := Lib.hid ha
  have HB := Lib.hid hb
  clear hO hT ha hb
  unfold valV
  go_enter Tryd.func6, Tryd.ntmps6
  go_wp2_with fail
  have oa : Own3 ((w.alloc (.cells #[.int .i64 a.type, .int .i64 a.n, .string a.s] 33)).alloc (.cells #[.int .i64 b.type, .int .i64 b.n, .string b.s] 33)) w.heap.size a :=
    (own3_new w a).keep ((Below.refl _ _).alloc (Nat.le_refl _) _)
  have ob : Own3 ((w.alloc (.cells #[.int .i64 a.type, .int .i64 a.n, .string a.s] 33)).alloc (.cells #[.int .i64 b.type, .int .i64 b.n, .string b.s] 33)) (w.heap.size + 1) b := by
    have := own3_new (w.alloc (.cells #[.int .i64 a.type, .int .i64 a.n, .string a.s] 33)) b
    rw [show (w.alloc (.cells #[.int .i64 a.type, .int .i64 a.n, .string a.s] 33)).heap.size = w.heap.size + 1 by simp] at this
    exact this
  have hz : w.heap.size + 1 + 1 = ((w.alloc (.cells #[.int .i64 a.type, .int .i64 a.n, .string a.s] 33)).alloc (.cells #[.int .i64 b.type, .int .i64 b.n, .string b.s] 33)).heap.size := by simp
  have hb2 : Below w.heap.size w ((w.alloc (.cells #[.int .i64 a.type, .int .i64 a.n, .string a.s] 33)).alloc (.cells #[.int .i64 b.type, .int .i64 b.n, .string b.s] 33)) :=
    ((Below.refl _ _).alloc (Nat.le_refl _) _).alloc (by simp) _
  rw [hz]
  generalize (w.alloc (.cells #[.int .i64 a.type, .int .i64 a.n, .string a.s] 33)).alloc (.cells #[.int .i64 b.type, .int .i64 b.n, .string b.s] 33) = w2 at oa ob hz hb2 ⊢
  have hpw := hb2.size
  have hb3 : Below w2.heap.size w2 (w2.alloc (.cells #[.int .i64 3, .int .i64 0, .string ⟨#[97, 98, 99]⟩] 33)) := (Below.refl _ _).alloc (Nat.le_refl _) _
  refine (do_any ⟨#[108, 101, 110]⟩ [⟨3, 0, ⟨#[97, 98, 99]⟩⟩] _ 1 1 _ ((HO.out.keep hb2).keep hb3) ((HT.out.keep hb2).keep hb3) (sees_row (l := [⟨3, 0, ⟨#[97, 98, 99]⟩⟩]) (heap_alloc_new w2 _) (by decide))
    (by intro v hv; simp at hv; subst hv; unfold Val.wf; exact ⟨by decide, by decide, by decide⟩) (by omega)).mono ?_
  rintro e w3 ⟨rfl, hb4⟩
  rw [fact_val.1, fact_val.2, errV_zero]
  unfold ofV valV
  have hb5 := below_step hb3 hb4
  have B3 := Lib.hid (below_step hb2 hb5)
  have OA3 := Lib.hid (oa.keep hb5)
  have OB3 := Lib.hid (ob.keep hb5)
  have HZ := Lib.hid hz
  clear oa ob hb2 hb3 hb4 hb5 hz hpw
  go_wp2_with fail
  have hi : Inv w w.heap.size (w.heap.size + 1) (w3.heap.size + 1) (w3.heap.size + 1 + 1) a b (((w3.alloc (.cells #[.int .i64 1, .int .i64 3, .string ⟨#[]⟩] 33)).alloc (.cells #[.string ⟨#[43]⟩, .string ⟨#[42]⟩, .string ⟨#[61]⟩, .string ⟨#[60, 62]⟩, .string ⟨#[60]⟩, .string ⟨#[60, 61]⟩] 9)).alloc (.cells #[.string ⟨#[43]⟩, .string ⟨#[42]⟩, .string ⟨#[61]⟩, .string ⟨#[60, 62]⟩, .string ⟨#[62]⟩, .string ⟨#[62, 61]⟩] 9)) := by
    have h1 : ∀ (W : World) (o : Obj), Below W.heap.size W (W.alloc o) := fun W o => (Below.refl _ _).alloc (Nat.le_refl _) _
    have h2 := below_step (below_step (h1 w3 (.cells #[.int .i64 1, .int .i64 3, .string ⟨#[]⟩] 33)) (h1 _ (.cells #[.string ⟨#[43]⟩, .string ⟨#[42]⟩, .string ⟨#[61]⟩, .string ⟨#[60, 62]⟩, .string ⟨#[60]⟩, .string ⟨#[60, 61]⟩] 9))) (h1 _ (.cells #[.string ⟨#[43]⟩, .string ⟨#[42]⟩, .string ⟨#[61]⟩, .string ⟨#[60, 62]⟩, .string ⟨#[62]⟩, .string ⟨#[62, 61]⟩] 9))
    refine ⟨OA3.out.keep h2, OB3.out.keep h2, below_step B3.out h2, Sees.keep ?_ (h1 _ _), ?_⟩
    · have := sees_strs (l := opsA) (heap_alloc_new (w3.alloc (.cells #[.int .i64 1, .int .i64 3, .string ⟨#[]⟩] 33)) (.cells #[.string ⟨#[43]⟩, .string ⟨#[42]⟩, .string ⟨#[61]⟩, .string ⟨#[60, 62]⟩, .string ⟨#[60]⟩, .string ⟨#[60, 61]⟩] 9)) (by decide)
      rw [show (w3.alloc (.cells #[.int .i64 1, .int .i64 3, .string ⟨#[]⟩] 33)).heap.size = w3.heap.size + 1 by simp] at this
      exact this
    · have := sees_strs (l := opsZ) (heap_alloc_new ((w3.alloc (.cells #[.int .i64 1, .int .i64 3, .string ⟨#[]⟩] 33)).alloc (.cells #[.string ⟨#[43]⟩, .string ⟨#[42]⟩, .string ⟨#[61]⟩, .string ⟨#[60, 62]⟩, .string ⟨#[60]⟩, .string ⟨#[60, 61]⟩] 9)) (.cells #[.string ⟨#[43]⟩, .string ⟨#[42]⟩, .string ⟨#[61]⟩, .string ⟨#[60, 62]⟩, .string ⟨#[62]⟩, .string ⟨#[62, 61]⟩] 9)) (by decide)
      rw [show ((w3.alloc (.cells #[.int .i64 1, .int .i64 3, .string ⟨#[]⟩] 33)).alloc (.cells #[.string ⟨#[43]⟩, .string ⟨#[42]⟩, .string ⟨#[61]⟩, .string ⟨#[60, 62]⟩, .string ⟨#[60]⟩, .string ⟨#[60, 61]⟩] 9)).heap.size = w3.heap.size + 1 + 1 by simp] at this
      exact this
  generalize ((w3.alloc (.cells #[.int .i64 1, .int .i64 3, .string ⟨#[]⟩] 33)).alloc (.cells #[.string ⟨#[43]⟩, .string ⟨#[42]⟩, .string ⟨#[61]⟩, .string ⟨#[60, 62]⟩, .string ⟨#[60]⟩, .string ⟨#[60, 61]⟩] 9)).alloc (.cells #[.string ⟨#[43]⟩, .string ⟨#[42]⟩, .string ⟨#[61]⟩, .string ⟨#[60, 62]⟩, .string ⟨#[62]⟩, .string ⟨#[62, 61]⟩] 9) = wl at hi ⊢
  generalize w3.heap.size + 1 + 1 = h8 at hi ⊢
  generalize w3.heap.size + 1 = h7 at hi ⊢
  generalize hp : w.heap.size = p at hi ⊢
  have HP := Lib.hid hp
  have HI := Lib.hid hi
  clear hi hp HZ B3 OA3 OB3
  go_loopw [9] (fun i wr => ∃ k : Nat, k ≤ 6 ∧ i = .int .i64 k ∧ Inv w p (p + 1) h7 h8 a b wr) (fun i _ => 6 - (intOf i).toNat)
  case atStart => exact ⟨0, by omega, rfl, HI.out⟩
  case round =>
    obtain ⟨k, hk, rfl, hinv⟩ := hrel
    have HV := Lib.hid hinv
    by_cases hlk : k < 6
    · have c7 : wr.cell? ⟨h7, k, none⟩ = some (.string (opA k)) := strs_at (l := opsA) hinv.2.2.2.1 hlk
      have c8 : wr.cell? ⟨h8, k, none⟩ = some (.string (opZ k)) := strs_at (l := opsZ) hinv.2.2.2.2 hlk
      obtain ⟨a0, a1, a2, -, -, -, al⟩ := hinv.1.cells
      obtain ⟨b0, b1, b2, -, -, -, bl⟩ := hinv.2.1.cells
      have l7 := World.block_lt_of_cell? wr _ c7
      have l8 := World.block_lt_of_cell? wr _ c8
      have OW := Lib.hid (HO.out.keep (by have := hinv.2.2.1; exact this))
      have LW := Lib.hid (HT.out.keep (by have := hinv.2.2.1; exact this))
      clear hinv
      go_wp2_with fail
      go_cut [10, 11] from 29 to 64 (fun s10 s11 wx => ∃ r : Nat, s10 = .pointer (some ⟨r, 0, none⟩) ∧ Own3 wx r (doVal (opA k) [a, b]) ∧ s11 = errV (doErr (opA k) [a, b]) ∧ Below wr.heap.size wr wx)
      case first =>
        have wf2 : ∀ v ∈ [a, b], v.wf := by
          intro v hv
          simp at hv
          rcases hv with rfl | rfl
          · exact HA.out
          · exact HB.out
        have b1' : Below wr.heap.size wr (wr.alloc (.cells #[.int .i64 a.type, .int .i64 a.n, .string a.s, .int .i64 b.type, .int .i64 b.n, .string b.s] 33)).drew := ((Below.refl _ _).alloc (Nat.le_refl _) _).drew
        have b2' : Below wr.heap.size wr ((wr.alloc (.cells #[.int .i64 0, .int .i64 0, .string ⟨#[]⟩] 33)).alloc (.cells #[.int .i64 a.type, .int .i64 a.n, .string a.s, .int .i64 b.type, .int .i64 b.n, .string b.s] 33)).drew := (((Below.refl _ _).alloc (Nat.le_refl _) _).alloc (by simp) _).drew
        have b3' : Below wr.heap.size wr ((wr.alloc (.cells #[.int .i64 a.type, .int .i64 a.n, .string a.s, .int .i64 b.type, .int .i64 b.n, .string b.s] 33)).alloc (.cells #[.int .i64 0, .int .i64 0, .string ⟨#[]⟩] 33)).drew := (((Below.refl _ _).alloc (Nat.le_refl _) _).alloc (by simp) _).drew
        have s1 : SeesVals (wr.alloc (.cells #[.int .i64 a.type, .int .i64 a.n, .string a.s, .int .i64 b.type, .int .i64 b.n, .string b.s] 33)).drew (some ⟨wr.heap.size, 0, none⟩) 2 2 [a, b] := sees_row (l := [a, b]) (heap_alloc_new wr _) (by simp [maxLen])
        have s2 : SeesVals ((wr.alloc (.cells #[.int .i64 0, .int .i64 0, .string ⟨#[]⟩] 33)).alloc (.cells #[.int .i64 a.type, .int .i64 a.n, .string a.s, .int .i64 b.type, .int .i64 b.n, .string b.s] 33)).drew (some ⟨wr.heap.size + 1, 0, none⟩) 2 2 [a, b] := by
          have := sees_row (l := [a, b]) (heap_alloc_new (wr.alloc (.cells #[.int .i64 0, .int .i64 0, .string ⟨#[]⟩] 33)) (.cells #[.int .i64 a.type, .int .i64 a.n, .string a.s, .int .i64 b.type, .int .i64 b.n, .string b.s] 33)) (by simp [maxLen])
          rw [show (wr.alloc (.cells #[.int .i64 0, .int .i64 0, .string ⟨#[]⟩] 33)).heap.size = wr.heap.size + 1 by simp] at this
          exact this
        have s3 : SeesVals ((wr.alloc (.cells #[.int .i64 a.type, .int .i64 a.n, .string a.s, .int .i64 b.type, .int .i64 b.n, .string b.s] 33)).alloc (.cells #[.int .i64 0, .int .i64 0, .string ⟨#[]⟩] 33)).drew (some ⟨wr.heap.size, 0, none⟩) 2 2 [a, b] :=
          SeesVals.keep (w := wr.alloc (.cells #[.int .i64 a.type, .int .i64 a.n, .string a.s, .int .i64 b.type, .int .i64 b.n, .string b.s] 33)) (sees_row (l := [a, b]) (heap_alloc_new wr (.cells #[.int .i64 a.type, .int .i64 a.n, .string a.s, .int .i64 b.type, .int .i64 b.n, .string b.s] 33)) (by simp [maxLen])) ((Below.refl _ _).alloc (Nat.le_refl _) _).drew
        have z2 : Own3 ((wr.alloc (.cells #[.int .i64 0, .int .i64 0, .string ⟨#[]⟩] 33)).alloc (.cells #[.int .i64 a.type, .int .i64 a.n, .string a.s, .int .i64 b.type, .int .i64 b.n, .string b.s] 33)).drew wr.heap.size noVal := Own3.keep (w := wr.alloc (.cells #[.int .i64 0, .int .i64 0, .string ⟨#[]⟩] 33)) (own3_new wr noVal) ((Below.refl _ _).alloc (Nat.le_refl _) _).drew
        have z3 : Own3 ((wr.alloc (.cells #[.int .i64 a.type, .int .i64 a.n, .string a.s, .int .i64 b.type, .int .i64 b.n, .string b.s] 33)).alloc (.cells #[.int .i64 0, .int .i64 0, .string ⟨#[]⟩] 33)).drew (wr.heap.size + 1) noVal := by
          have := own3_new (wr.alloc (.cells #[.int .i64 a.type, .int .i64 a.n, .string a.s, .int .i64 b.type, .int .i64 b.n, .string b.s] 33)) noVal
          rw [show (wr.alloc (.cells #[.int .i64 a.type, .int .i64 a.n, .string a.s, .int .i64 b.type, .int .i64 b.n, .string b.s] 33)).heap.size = wr.heap.size + 1 by simp] at this
          exact this
        have B1' := Lib.hid b1'
        have B2' := Lib.hid b2'
        have B3' := Lib.hid b3'
        have T1 := Lib.hid (do_any (opA k) [a, b] _ 2 2 _ (OW.out.keep b1') (LW.out.keep b1') s1 wf2 (by omega))
        have T2 := Lib.hid (do_any (opA k) [a, b] _ 2 2 _ (OW.out.keep b2') (LW.out.keep b2') s2 wf2 (by omega))
        have T3 := Lib.hid (do_any (opA k) [a, b] _ 2 2 _ (OW.out.keep b3') (LW.out.keep b3') s3 wf2 (by omega))
        have Z2 := Lib.hid z2
        have Z3 := Lib.hid z3
        clear b1' b2' b3' s1 s2 s3 wf2 z2 z3
        generalize hdv : doVal (opA k) [a, b] = dv at T1 T2 T3 ⊢
        generalize hde : errV (doErr (opA k) [a, b]) = de
        have HDV := Lib.hid hdv
        have HDE := Lib.hid hde
        clear hdv hde
        go_region_held3 (fun w' => w'.cell? ⟨h7, k, none⟩ = some (.string (opA k)) ∧ w'.cell? ⟨p, 0, none⟩ = some (.int .i64 a.type) ∧ w'.cell? ⟨p, 1, none⟩ = some (.int .i64 a.n) ∧ w'.cell? ⟨p, 2, none⟩ = some (.string a.s) ∧ w'.cell? ⟨p + 1, 0, none⟩ = some (.int .i64 b.type) ∧ w'.cell? ⟨p + 1, 1, none⟩ = some (.int .i64 b.n) ∧ w'.cell? ⟨p + 1, 2, none⟩ = some (.string b.s)) (first | go_keep | exact ⟨q0, q1, q2, q3, q4, q5, q6⟩ | exact ⟨r0, r1, r2, r3, r4, r5, r6⟩) (first
            | (go_at_call 19; ((with_reducible refine (T1.out).mono ?_); rintro e w4 ⟨rfl, hb4⟩; rw [HDE.out]; have HB4 := Lib.hid (below_step B1'.out hb4); have q0 := (HB4.out.cell (p := ⟨h7, k, none⟩) l7).trans c7; have q1 := (HB4.out.cell (p := ⟨p, 0, none⟩) al).trans a0; have q2 := (HB4.out.cell (p := ⟨p, 1, none⟩) al).trans a1; have q3 := (HB4.out.cell (p := ⟨p, 2, none⟩) al).trans a2; have q4 := (HB4.out.cell (p := ⟨p + 1, 0, none⟩) bl).trans b0; have q5 := (HB4.out.cell (p := ⟨p + 1, 1, none⟩) bl).trans b1; have q6 := (HB4.out.cell (p := ⟨p + 1, 2, none⟩) bl).trans b2; clear hb4; unfold valV))
            | (go_at_call 19; ((with_reducible refine (T2.out).mono ?_); rintro e w4 ⟨rfl, hb4⟩; rw [HDE.out]; have HB4 := Lib.hid (below_step B2'.out hb4); have HZ4 := Lib.hid (Z2.out.keep hb4); obtain ⟨o0, o1, o2, f0, f1, f2, fl⟩ := HZ4.out.cells; have q0 := (HB4.out.cell (p := ⟨h7, k, none⟩) l7).trans c7; have q1 := (HB4.out.cell (p := ⟨p, 0, none⟩) al).trans a0; have q2 := (HB4.out.cell (p := ⟨p, 1, none⟩) al).trans a1; have q3 := (HB4.out.cell (p := ⟨p, 2, none⟩) al).trans a2; have q4 := (HB4.out.cell (p := ⟨p + 1, 0, none⟩) bl).trans b0; have q5 := (HB4.out.cell (p := ⟨p + 1, 1, none⟩) bl).trans b1; have q6 := (HB4.out.cell (p := ⟨p + 1, 2, none⟩) bl).trans b2; have r0 : (((w4.setCell ⟨wr.heap.size, 0, none⟩ (.int .i64 dv.type)).setCell ⟨wr.heap.size, 1, none⟩ (.int .i64 dv.n)).setCell ⟨wr.heap.size, 2, none⟩ (.string dv.s)).cell? ⟨h7, k, none⟩ = some (.string (opA k)) := (by rw [cell_set3 (by omega)]; exact q0); have r1 : (((w4.setCell ⟨wr.heap.size, 0, none⟩ (.int .i64 dv.type)).setCell ⟨wr.heap.size, 1, none⟩ (.int .i64 dv.n)).setCell ⟨wr.heap.size, 2, none⟩ (.string dv.s)).cell? ⟨p, 0, none⟩ = some (.int .i64 a.type) := (by rw [cell_set3 (by omega)]; exact q1); have r2 : (((w4.setCell ⟨wr.heap.size, 0, none⟩ (.int .i64 dv.type)).setCell ⟨wr.heap.size, 1, none⟩ (.int .i64 dv.n)).setCell ⟨wr.heap.size, 2, none⟩ (.string dv.s)).cell? ⟨p, 1, none⟩ = some (.int .i64 a.n) := (by rw [cell_set3 (by omega)]; exact q2); have r3 : (((w4.setCell ⟨wr.heap.size, 0, none⟩ (.int .i64 dv.type)).setCell ⟨wr.heap.size, 1, none⟩ (.int .i64 dv.n)).setCell ⟨wr.heap.size, 2, none⟩ (.string dv.s)).cell? ⟨p, 2, none⟩ = some (.string a.s) := (by rw [cell_set3 (by omega)]; exact q3); have r4 : (((w4.setCell ⟨wr.heap.size, 0, none⟩ (.int .i64 dv.type)).setCell ⟨wr.heap.size, 1, none⟩ (.int .i64 dv.n)).setCell ⟨wr.heap.size, 2, none⟩ (.string dv.s)).cell? ⟨p + 1, 0, none⟩ = some (.int .i64 b.type) := (by rw [cell_set3 (by omega)]; exact q4); have r5 : (((w4.setCell ⟨wr.heap.size, 0, none⟩ (.int .i64 dv.type)).setCell ⟨wr.heap.size, 1, none⟩ (.int .i64 dv.n)).setCell ⟨wr.heap.size, 2, none⟩ (.string dv.s)).cell? ⟨p + 1, 1, none⟩ = some (.int .i64 b.n) := (by rw [cell_set3 (by omega)]; exact q5); have r6 : (((w4.setCell ⟨wr.heap.size, 0, none⟩ (.int .i64 dv.type)).setCell ⟨wr.heap.size, 1, none⟩ (.int .i64 dv.n)).setCell ⟨wr.heap.size, 2, none⟩ (.string dv.s)).cell? ⟨p + 1, 2, none⟩ = some (.string b.s) := (by rw [cell_set3 (by omega)]; exact q6); clear hb4; unfold valV))
            | (go_at_call 19; ((with_reducible refine (T3.out).mono ?_); rintro e w4 ⟨rfl, hb4⟩; rw [HDE.out]; have HB4 := Lib.hid (below_step B3'.out hb4); have HZ4 := Lib.hid (Z3.out.keep hb4); obtain ⟨o0, o1, o2, f0, f1, f2, fl⟩ := HZ4.out.cells; have q0 := (HB4.out.cell (p := ⟨h7, k, none⟩) l7).trans c7; have q1 := (HB4.out.cell (p := ⟨p, 0, none⟩) al).trans a0; have q2 := (HB4.out.cell (p := ⟨p, 1, none⟩) al).trans a1; have q3 := (HB4.out.cell (p := ⟨p, 2, none⟩) al).trans a2; have q4 := (HB4.out.cell (p := ⟨p + 1, 0, none⟩) bl).trans b0; have q5 := (HB4.out.cell (p := ⟨p + 1, 1, none⟩) bl).trans b1; have q6 := (HB4.out.cell (p := ⟨p + 1, 2, none⟩) bl).trans b2; have r0 : (((w4.setCell ⟨wr.heap.size + 1, 0, none⟩ (.int .i64 dv.type)).setCell ⟨wr.heap.size + 1, 1, none⟩ (.int .i64 dv.n)).setCell ⟨wr.heap.size + 1, 2, none⟩ (.string dv.s)).cell? ⟨h7, k, none⟩ = some (.string (opA k)) := (by rw [cell_set3 (by omega)]; exact q0); have r1 : (((w4.setCell ⟨wr.heap.size + 1, 0, none⟩ (.int .i64 dv.type)).setCell ⟨wr.heap.size + 1, 1, none⟩ (.int .i64 dv.n)).setCell ⟨wr.heap.size + 1, 2, none⟩ (.string dv.s)).cell? ⟨p, 0, none⟩ = some (.int .i64 a.type) := (by rw [cell_set3 (by omega)]; exact q1); have r2 : (((w4.setCell ⟨wr.heap.size + 1, 0, none⟩ (.int .i64 dv.type)).setCell ⟨wr.heap.size + 1, 1, none⟩ (.int .i64 dv.n)).setCell ⟨wr.heap.size + 1, 2, none⟩ (.string dv.s)).cell? ⟨p, 1, none⟩ = some (.int .i64 a.n) := (by rw [cell_set3 (by omega)]; exact q2); have r3 : (((w4.setCell ⟨wr.heap.size + 1, 0, none⟩ (.int .i64 dv.type)).setCell ⟨wr.heap.size + 1, 1, none⟩ (.int .i64 dv.n)).setCell ⟨wr.heap.size + 1, 2, none⟩ (.string dv.s)).cell? ⟨p, 2, none⟩ = some (.string a.s) := (by rw [cell_set3 (by omega)]; exact q3); have r4 : (((w4.setCell ⟨wr.heap.size + 1, 0, none⟩ (.int .i64 dv.type)).setCell ⟨wr.heap.size + 1, 1, none⟩ (.int .i64 dv.n)).setCell ⟨wr.heap.size + 1, 2, none⟩ (.string dv.s)).cell? ⟨p + 1, 0, none⟩ = some (.int .i64 b.type) := (by rw [cell_set3 (by omega)]; exact q4); have r5 : (((w4.setCell ⟨wr.heap.size + 1, 0, none⟩ (.int .i64 dv.type)).setCell ⟨wr.heap.size + 1, 1, none⟩ (.int .i64 dv.n)).setCell ⟨wr.heap.size + 1, 2, none⟩ (.string dv.s)).cell? ⟨p + 1, 1, none⟩ = some (.int .i64 b.n) := (by rw [cell_set3 (by omega)]; exact q5); have r6 : (((w4.setCell ⟨wr.heap.size + 1, 0, none⟩ (.int .i64 dv.type)).setCell ⟨wr.heap.size + 1, 1, none⟩ (.int .i64 dv.n)).setCell ⟨wr.heap.size + 1, 2, none⟩ (.string dv.s)).cell? ⟨p + 1, 2, none⟩ = some (.string b.s) := (by rw [cell_set3 (by omega)]; exact q6); clear hb4; unfold valV)))
        all_goals
          go_wp2_with fail
          go_meet
          rw [HDV.out, HDE.out]
          first
            | exact ⟨_, rfl, own3_new w4 dv, rfl, below_step HB4.out ((Below.refl _ _).alloc (Nat.le_refl _) _)⟩
            | exact ⟨_, rfl, own3_set HZ4.out dv.type dv.n dv.s, rfl, below_set3 HB4.out (by omega) _ _ _⟩
      case rest =>
      obtain ⟨r1, rfl, or1, rfl, hb1⟩ := hcut
      have OR1 := Lib.hid or1
      have HV1 := Lib.hid (HV.out.keep hb1)
      have hinv := HV1.out
      have c8' : wc.cell? ⟨h8, k, none⟩ = some (.string (opZ k)) := strs_at (l := opsZ) hinv.2.2.2.2 hlk
      clear a0 a1 a2 b0 b1 b2 c7 c8 l7 l8 al bl
      obtain ⟨a0, a1, a2, -, -, -, al⟩ := hinv.1.cells
      obtain ⟨b0, b1, b2, -, -, -, bl⟩ := hinv.2.1.cells
      have l8 := World.block_lt_of_cell? wc _ c8'
      have OW1 := Lib.hid (OW.out.keep hb1)
      have LW1 := Lib.hid (LW.out.keep hb1)
      clear or1 hb1 hinv
      generalize hde1 : errV (doErr (opA k) [a, b]) = de1
      have HDE1 := Lib.hid hde1
      clear hde1
      go_wp2_with fail
      go_cut [12, 13] from 29 to 64 (fun s10 s11 wx => ∃ r : Nat, s10 = .pointer (some ⟨r, 0, none⟩) ∧ Own3 wx r (doVal (opZ k) [b, a]) ∧ s11 = errV (doErr (opZ k) [b, a]) ∧ Below wc.heap.size wc wx)
      case first =>
        have wf2 : ∀ v ∈ [b, a], v.wf := by
          intro v hv
          simp at hv
          rcases hv with rfl | rfl
          · exact HB.out
          · exact HA.out
        have b1' : Below wc.heap.size wc (wc.alloc (.cells #[.int .i64 b.type, .int .i64 b.n, .string b.s, .int .i64 a.type, .int .i64 a.n, .string a.s] 33)).drew := ((Below.refl _ _).alloc (Nat.le_refl _) _).drew
        have b2' : Below wc.heap.size wc ((wc.alloc (.cells #[.int .i64 0, .int .i64 0, .string ⟨#[]⟩] 33)).alloc (.cells #[.int .i64 b.type, .int .i64 b.n, .string b.s, .int .i64 a.type, .int .i64 a.n, .string a.s] 33)).drew := (((Below.refl _ _).alloc (Nat.le_refl _) _).alloc (by simp) _).drew
        have b3' : Below wc.heap.size wc ((wc.alloc (.cells #[.int .i64 b.type, .int .i64 b.n, .string b.s, .int .i64 a.type, .int .i64 a.n, .string a.s] 33)).alloc (.cells #[.int .i64 0, .int .i64 0, .string ⟨#[]⟩] 33)).drew := (((Below.refl _ _).alloc (Nat.le_refl _) _).alloc (by simp) _).drew
        have s1 : SeesVals (wc.alloc (.cells #[.int .i64 b.type, .int .i64 b.n, .string b.s, .int .i64 a.type, .int .i64 a.n, .string a.s] 33)).drew (some ⟨wc.heap.size, 0, none⟩) 2 2 [b, a] := sees_row (l := [b, a]) (heap_alloc_new wc _) (by simp [maxLen])
        have s2 : SeesVals ((wc.alloc (.cells #[.int .i64 0, .int .i64 0, .string ⟨#[]⟩] 33)).alloc (.cells #[.int .i64 b.type, .int .i64 b.n, .string b.s, .int .i64 a.type, .int .i64 a.n, .string a.s] 33)).drew (some ⟨wc.heap.size + 1, 0, none⟩) 2 2 [b, a] := by
          have := sees_row (l := [b, a]) (heap_alloc_new (wc.alloc (.cells #[.int .i64 0, .int .i64 0, .string ⟨#[]⟩] 33)) (.cells #[.int .i64 b.type, .int .i64 b.n, .string b.s, .int .i64 a.type, .int .i64 a.n, .string a.s] 33)) (by simp [maxLen])
          rw [show (wc.alloc (.cells #[.int .i64 0, .int .i64 0, .string ⟨#[]⟩] 33)).heap.size = wc.heap.size + 1 by simp] at this
          exact this
        have s3 : SeesVals ((wc.alloc (.cells #[.int .i64 b.type, .int .i64 b.n, .string b.s, .int .i64 a.type, .int .i64 a.n, .string a.s] 33)).alloc (.cells #[.int .i64 0, .int .i64 0, .string ⟨#[]⟩] 33)).drew (some ⟨wc.heap.size, 0, none⟩) 2 2 [b, a] :=
          SeesVals.keep (w := wc.alloc (.cells #[.int .i64 b.type, .int .i64 b.n, .string b.s, .int .i64 a.type, .int .i64 a.n, .string a.s] 33)) (sees_row (l := [b, a]) (heap_alloc_new wc (.cells #[.int .i64 b.type, .int .i64 b.n, .string b.s, .int .i64 a.type, .int .i64 a.n, .string a.s] 33)) (by simp [maxLen])) ((Below.refl _ _).alloc (Nat.le_refl _) _).drew
        have z2 : Own3 ((wc.alloc (.cells #[.int .i64 0, .int .i64 0, .string ⟨#[]⟩] 33)).alloc (.cells #[.int .i64 b.type, .int .i64 b.n, .string b.s, .int .i64 a.type, .int .i64 a.n, .string a.s] 33)).drew wc.heap.size noVal := Own3.keep (w := wc.alloc (.cells #[.int .i64 0, .int .i64 0, .string ⟨#[]⟩] 33)) (own3_new wc noVal) ((Below.refl _ _).alloc (Nat.le_refl _) _).drew
        have z3 : Own3 ((wc.alloc (.cells #[.int .i64 b.type, .int .i64 b.n, .string b.s, .int .i64 a.type, .int .i64 a.n, .string a.s] 33)).alloc (.cells #[.int .i64 0, .int .i64 0, .string ⟨#[]⟩] 33)).drew (wc.heap.size + 1) noVal := by
          have := own3_new (wc.alloc (.cells #[.int .i64 b.type, .int .i64 b.n, .string b.s, .int .i64 a.type, .int .i64 a.n, .string a.s] 33)) noVal
          rw [show (wc.alloc (.cells #[.int .i64 b.type, .int .i64 b.n, .string b.s, .int .i64 a.type, .int .i64 a.n, .string a.s] 33)).heap.size = wc.heap.size + 1 by simp] at this
          exact this
        have B1' := Lib.hid b1'
        have B2' := Lib.hid b2'
        have B3' := Lib.hid b3'
        have T1 := Lib.hid (do_any (opZ k) [b, a] _ 2 2 _ (OW1.out.keep b1') (LW1.out.keep b1') s1 wf2 (by omega))
        have T2 := Lib.hid (do_any (opZ k) [b, a] _ 2 2 _ (OW1.out.keep b2') (LW1.out.keep b2') s2 wf2 (by omega))
        have T3 := Lib.hid (do_any (opZ k) [b, a] _ 2 2 _ (OW1.out.keep b3') (LW1.out.keep b3') s3 wf2 (by omega))
        have Z2 := Lib.hid z2
        have Z3 := Lib.hid z3
        clear b1' b2' b3' s1 s2 s3 wf2 z2 z3
        generalize hdv : doVal (opZ k) [b, a] = dv at T1 T2 T3 ⊢
        generalize hde : errV (doErr (opZ k) [b, a]) = de
        have HDV := Lib.hid hdv
        have HDE := Lib.hid hde
        clear hdv hde
        go_region_held3 (fun w' => w'.cell? ⟨h8, k, none⟩ = some (.string (opZ k)) ∧ w'.cell? ⟨p, 0, none⟩ = some (.int .i64 a.type) ∧ w'.cell? ⟨p, 1, none⟩ = some (.int .i64 a.n) ∧ w'.cell? ⟨p, 2, none⟩ = some (.string a.s) ∧ w'.cell? ⟨p + 1, 0, none⟩ = some (.int .i64 b.type) ∧ w'.cell? ⟨p + 1, 1, none⟩ = some (.int .i64 b.n) ∧ w'.cell? ⟨p + 1, 2, none⟩ = some (.string b.s)) (first | go_keep | exact ⟨q0, q1, q2, q3, q4, q5, q6⟩ | exact ⟨r0, r1, r2, r3, r4, r5, r6⟩) (first
            | (go_at_call 19; ((with_reducible refine (T1.out).mono ?_); rintro e w4 ⟨rfl, hb4⟩; rw [HDE.out]; have HB4 := Lib.hid (below_step B1'.out hb4); have q0 := (HB4.out.cell (p := ⟨h8, k, none⟩) l8).trans c8'; have q1 := (HB4.out.cell (p := ⟨p, 0, none⟩) al).trans a0; have q2 := (HB4.out.cell (p := ⟨p, 1, none⟩) al).trans a1; have q3 := (HB4.out.cell (p := ⟨p, 2, none⟩) al).trans a2; have q4 := (HB4.out.cell (p := ⟨p + 1, 0, none⟩) bl).trans b0; have q5 := (HB4.out.cell (p := ⟨p + 1, 1, none⟩) bl).trans b1; have q6 := (HB4.out.cell (p := ⟨p + 1, 2, none⟩) bl).trans b2; clear hb4; unfold valV))
            | (go_at_call 19; ((with_reducible refine (T2.out).mono ?_); rintro e w4 ⟨rfl, hb4⟩; rw [HDE.out]; have HB4 := Lib.hid (below_step B2'.out hb4); have HZ4 := Lib.hid (Z2.out.keep hb4); obtain ⟨o0, o1, o2, f0, f1, f2, fl⟩ := HZ4.out.cells; have q0 := (HB4.out.cell (p := ⟨h8, k, none⟩) l8).trans c8'; have q1 := (HB4.out.cell (p := ⟨p, 0, none⟩) al).trans a0; have q2 := (HB4.out.cell (p := ⟨p, 1, none⟩) al).trans a1; have q3 := (HB4.out.cell (p := ⟨p, 2, none⟩) al).trans a2; have q4 := (HB4.out.cell (p := ⟨p + 1, 0, none⟩) bl).trans b0; have q5 := (HB4.out.cell (p := ⟨p + 1, 1, none⟩) bl).trans b1; have q6 := (HB4.out.cell (p := ⟨p + 1, 2, none⟩) bl).trans b2; have r0 : (((w4.setCell ⟨wc.heap.size, 0, none⟩ (.int .i64 dv.type)).setCell ⟨wc.heap.size, 1, none⟩ (.int .i64 dv.n)).setCell ⟨wc.heap.size, 2, none⟩ (.string dv.s)).cell? ⟨h8, k, none⟩ = some (.string (opZ k)) := (by rw [cell_set3 (by omega)]; exact q0); have r1 : (((w4.setCell ⟨wc.heap.size, 0, none⟩ (.int .i64 dv.type)).setCell ⟨wc.heap.size, 1, none⟩ (.int .i64 dv.n)).setCell ⟨wc.heap.size, 2, none⟩ (.string dv.s)).cell? ⟨p, 0, none⟩ = some (.int .i64 a.type) := (by rw [cell_set3 (by omega)]; exact q1); have r2 : (((w4.setCell ⟨wc.heap.size, 0, none⟩ (.int .i64 dv.type)).setCell ⟨wc.heap.size, 1, none⟩ (.int .i64 dv.n)).setCell ⟨wc.heap.size, 2, none⟩ (.string dv.s)).cell? ⟨p, 1, none⟩ = some (.int .i64 a.n) := (by rw [cell_set3 (by omega)]; exact q2); have r3 : (((w4.setCell ⟨wc.heap.size, 0, none⟩ (.int .i64 dv.type)).setCell ⟨wc.heap.size, 1, none⟩ (.int .i64 dv.n)).setCell ⟨wc.heap.size, 2, none⟩ (.string dv.s)).cell? ⟨p, 2, none⟩ = some (.string a.s) := (by rw [cell_set3 (by omega)]; exact q3); have r4 : (((w4.setCell ⟨wc.heap.size, 0, none⟩ (.int .i64 dv.type)).setCell ⟨wc.heap.size, 1, none⟩ (.int .i64 dv.n)).setCell ⟨wc.heap.size, 2, none⟩ (.string dv.s)).cell? ⟨p + 1, 0, none⟩ = some (.int .i64 b.type) := (by rw [cell_set3 (by omega)]; exact q4); have r5 : (((w4.setCell ⟨wc.heap.size, 0, none⟩ (.int .i64 dv.type)).setCell ⟨wc.heap.size, 1, none⟩ (.int .i64 dv.n)).setCell ⟨wc.heap.size, 2, none⟩ (.string dv.s)).cell? ⟨p + 1, 1, none⟩ = some (.int .i64 b.n) := (by rw [cell_set3 (by omega)]; exact q5); have r6 : (((w4.setCell ⟨wc.heap.size, 0, none⟩ (.int .i64 dv.type)).setCell ⟨wc.heap.size, 1, none⟩ (.int .i64 dv.n)).setCell ⟨wc.heap.size, 2, none⟩ (.string dv.s)).cell? ⟨p + 1, 2, none⟩ = some (.string b.s) := (by rw [cell_set3 (by omega)]; exact q6); clear hb4; unfold valV))
            | (go_at_call 19; ((with_reducible refine (T3.out).mono ?_); rintro e w4 ⟨rfl, hb4⟩; rw [HDE.out]; have HB4 := Lib.hid (below_step B3'.out hb4); have HZ4 := Lib.hid (Z3.out.keep hb4); obtain ⟨o0, o1, o2, f0, f1, f2, fl⟩ := HZ4.out.cells; have q0 := (HB4.out.cell (p := ⟨h8, k, none⟩) l8).trans c8'; have q1 := (HB4.out.cell (p := ⟨p, 0, none⟩) al).trans a0; have q2 := (HB4.out.cell (p := ⟨p, 1, none⟩) al).trans a1; have q3 := (HB4.out.cell (p := ⟨p, 2, none⟩) al).trans a2; have q4 := (HB4.out.cell (p := ⟨p + 1, 0, none⟩) bl).trans b0; have q5 := (HB4.out.cell (p := ⟨p + 1, 1, none⟩) bl).trans b1; have q6 := (HB4.out.cell (p := ⟨p + 1, 2, none⟩) bl).trans b2; have r0 : (((w4.setCell ⟨wc.heap.size + 1, 0, none⟩ (.int .i64 dv.type)).setCell ⟨wc.heap.size + 1, 1, none⟩ (.int .i64 dv.n)).setCell ⟨wc.heap.size + 1, 2, none⟩ (.string dv.s)).cell? ⟨h8, k, none⟩ = some (.string (opZ k)) := (by rw [cell_set3 (by omega)]; exact q0); have r1 : (((w4.setCell ⟨wc.heap.size + 1, 0, none⟩ (.int .i64 dv.type)).setCell ⟨wc.heap.size + 1, 1, none⟩ (.int .i64 dv.n)).setCell ⟨wc.heap.size + 1, 2, none⟩ (.string dv.s)).cell? ⟨p, 0, none⟩ = some (.int .i64 a.type) := (by rw [cell_set3 (by omega)]; exact q1); have r2 : (((w4.setCell ⟨wc.heap.size + 1, 0, none⟩ (.int .i64 dv.type)).setCell ⟨wc.heap.size + 1, 1, none⟩ (.int .i64 dv.n)).setCell ⟨wc.heap.size + 1, 2, none⟩ (.string dv.s)).cell? ⟨p, 1, none⟩ = some (.int .i64 a.n) := (by rw [cell_set3 (by omega)]; exact q2); have r3 : (((w4.setCell ⟨wc.heap.size + 1, 0, none⟩ (.int .i64 dv.type)).setCell ⟨wc.heap.size + 1, 1, none⟩ (.int .i64 dv.n)).setCell ⟨wc.heap.size + 1, 2, none⟩ (.string dv.s)).cell? ⟨p, 2, none⟩ = some (.string a.s) := (by rw [cell_set3 (by omega)]; exact q3); have r4 : (((w4.setCell ⟨wc.heap.size + 1, 0, none⟩ (.int .i64 dv.type)).setCell ⟨wc.heap.size + 1, 1, none⟩ (.int .i64 dv.n)).setCell ⟨wc.heap.size + 1, 2, none⟩ (.string dv.s)).cell? ⟨p + 1, 0, none⟩ = some (.int .i64 b.type) := (by rw [cell_set3 (by omega)]; exact q4); have r5 : (((w4.setCell ⟨wc.heap.size + 1, 0, none⟩ (.int .i64 dv.type)).setCell ⟨wc.heap.size + 1, 1, none⟩ (.int .i64 dv.n)).setCell ⟨wc.heap.size + 1, 2, none⟩ (.string dv.s)).cell? ⟨p + 1, 1, none⟩ = some (.int .i64 b.n) := (by rw [cell_set3 (by omega)]; exact q5); have r6 : (((w4.setCell ⟨wc.heap.size + 1, 0, none⟩ (.int .i64 dv.type)).setCell ⟨wc.heap.size + 1, 1, none⟩ (.int .i64 dv.n)).setCell ⟨wc.heap.size + 1, 2, none⟩ (.string dv.s)).cell? ⟨p + 1, 2, none⟩ = some (.string b.s) := (by rw [cell_set3 (by omega)]; exact q6); clear hb4; unfold valV)))
        all_goals
          go_wp2_with fail
          go_meet
          rw [HDV.out, HDE.out]
          first
            | exact ⟨_, rfl, own3_new w4 dv, rfl, below_step HB4.out ((Below.refl _ _).alloc (Nat.le_refl _) _)⟩
            | exact ⟨_, rfl, own3_set HZ4.out dv.type dv.n dv.s, rfl, below_set3 HB4.out (by omega) _ _ _⟩
      case rest =>
      obtain ⟨r2, rfl, or2, rfl, hb2⟩ := hcut
      obtain ⟨sv, se⟩ := swaps hlk a b
      rw [sv] at or2
      have or1 := OR1.out.keep hb2
      have HV2 := Lib.hid (HV1.out.keep hb2)
      generalize doVal (opA k) [a, b] = v at or1 or2
      obtain ⟨x0, x1, x2, -, -, -, -⟩ := or1.cells
      obtain ⟨y0, y1, y2, -, -, -, -⟩ := or2.cells
      clear or1 or2 hb2 a0 a1 a2 b0 b1 b2 al bl l8 c8' sv
      have hde1 := HDE1.out
      by_cases h0 : doErr (opA k) [a, b] = 0
      · rw [h0, errV_zero] at hde1
        rw [se.2 h0, errV_zero]
        subst hde1
        clear HDE1 se h0
        go_wp2_with fail
        go_quiet (fail)
        have HV3 := Lib.hid (Inv.keep HV2.out (below_drewN (Below.refl _ _) nq))
        generalize wc.drewN nq = w5 at HV3 ⊢
        go_wp2_with fail
        go_roundw
        case rel => exact ⟨k + 1, by omega, by go_num, HV3.out⟩
        case measure => simp [intOf]; omega
      · have h1 : doErr (opZ k) [b, a] ≠ 0 := fun h => h0 (se.1 h)
        rw [errV_ne h0] at hde1
        rw [errV_ne h1]
        subst hde1
        generalize doErr (opZ k) [b, a] = f2
        generalize doErr (opA k) [a, b] = f1
        clear HDE1 se h0 h1
        go_wp2_with fail
        go_quiet (fail)
        have HV3 := Lib.hid (Inv.keep HV2.out (below_drewN (Below.refl _ _) nq))
        generalize wc.drewN nq = w5 at HV3 ⊢
        go_wp2_with fail
        go_roundw
        case rel => exact ⟨k + 1, by omega, by go_num, HV3.out⟩
        case measure => simp [intOf]; omega
    · obtain rfl : k = 6 := by omega
      clear hinv
      go_wp2_with fail
      go_ret
      exact ⟨rfl, HV.out.2.2.1⟩

set_option maxRecDepth 100000 in
theorem contract (H : Type) (enc : TypeId × Value → H) (W : World) (base : Nat) (args : Array Value) (ds gs : List (DataW H)) (before : List MemPlace)
    (hval : ∀ (j : Nat) t v, Tryd.f6.params[j]? = some t → args[j]? = some v → Value.okWide Tryd.prog W .any base t v)
    (hW : DataW.Whole enc Tryd.prog Tryd.f6.params.toList Rows.evalSwapsSpec.vars false W args.toList ds gs before)
    (hsz : (DataW.weightsEach Tryd.prog (Tryd.f6.params.toList ++ (OpenSpec.ofChange Rows.evalSwapsSpec).bare.plain.varTypes Tryd.prog) (ds ++ gs)).all (· ≤ reachBytes) = true) (hL : laidMetH Tryd.prog Rows.evalSwapsRow.laid W) :
    Calls Tryd.prog 6 args W fun e W' => ∃ v, e = .returned v ∧ Rows.evalSwapsSpec.post enc Tryd.prog Tryd.f6 false true false false W args v W' := by
  have hW' := hW
  obtain ⟨p, q, hA0, hV, rfl, hfz, hnd⟩ := hW
  have hA : DataW.TrodAll enc Tryd.prog W 0 (fun _ => true) true Tryd.f6.params.toList args.toList ds p := hA0
  rw [Tryd.params6] at hA hval
  obtain ⟨v0, vs0, d0, ds0, p0, q0, hargs, rfl, rfl, h0, r0⟩ := trodAll_cons hA
  obtain ⟨v1, vs1, d1, ds1, p1, q1, rfl, rfl, rfl, h1, r1⟩ := trodAll_cons r0
  obtain ⟨rfl, rfl, rfl⟩ := trodAll_nil r1
  obtain rfl : args = #[v0, v1] := by cases args; simp_all
  obtain ⟨rfl, rfl⟩ := trodVars_none hV
  have hv0 := hval 0 33 v0 rfl rfl
  have hv1 := hval 1 33 v1 rfl rfl
  obtain ⟨x0, rfl, f0⟩ := open_val hv0 h0
  obtain ⟨x1, rfl, f1⟩ := open_val hv1 h1
  have hL0 : laidMet Tryd.prog Rows.evalSwapsRow.laid W := hL
  refine (walk x0 x1 W (opsT_of hL0 (.tail _ (.head _))) (levelsT_of hL0 (.head _)) f0 f1).mono fun e W' ⟨he, hb⟩ => ?_
  subst he
  exact ⟨_, rfl, law_post laidOut Tryd.underlying4 (by kernel_rfl) rfl (by rw [Tryd.params6]; intro t ht; simp only [List.mem_cons, List.not_mem_nil, or_false] at ht; rcases ht with rfl | rfl; all_goals exact ⟨by kernel_rfl, of_decide_eq_true (by kernel_rfl)⟩) hW' rfl hb⟩

theorem reads (os : Os) {H : Type} (enc : TypeId × Value → H) : ∃ places, DataW.whole enc Tryd.prog ((World.doorLaid Tryd.prog 4000 os).forCall (fun _ _ => 0) ⟨#[], #[.agg #[.int .i64 0, .int .i64 0, .string .empty], .agg #[.int .i64 0, .int .i64 0, .string .empty]], []⟩).memory Tryd.f6.params.toList Rows.evalSwapsSpec.vars false (#[.agg #[.int .i64 0, .int .i64 0, .string .empty], .agg #[.int .i64 0, .int .i64 0, .string .empty]] : Array Value).toList 8 = some ([.agg [.lit (.int .i64 0), .lit (.int .i64 0), .lit (.string [])], .agg [.lit (.int .i64 0), .lit (.int .i64 0), .lit (.string [])]], [], places) :=
  ⟨[], by kernel_rfl⟩

set_option maxRecDepth 100000 in
theorem lifted (os : Os) (started : os.Started) (H : Type) (enc : TypeId × Value → H) (F : Stop.Interp) :
    ReturnsInHanded {} Tryd.checked os 6 .any ((OpenSpec.ofChange Rows.evalSwapsSpec).preRow enc Tryd.prog Tryd.f6 Rows.evalSwapsRow.domain false Rows.evalSwapsRow.laid) (((OpenSpec.ofChange Rows.evalSwapsSpec).at F).post enc Tryd.prog Tryd.f6 false true false false) := by
  obtain ⟨places, hx⟩ := reads os enc
  refine returnsInHanded_of_row (C := Tryd.checked) (s := OpenSpec.ofChange Rows.evalSwapsSpec) own started (by kernel_rfl) Tryd.func6
    (witness_row_atRef (enc := enc) (C := Tryd.checked) false (World.doorLaid Tryd.prog 4000 os) #[.agg #[.int .i64 0, .int .i64 0, .string .empty], .agg #[.int .i64 0, .int .i64 0, .string .empty]] rfl (by kernel_rfl) (by kernel_rfl) (by kernel_rfl)
      (OpenSpec.preRow_of_cond 8 hx (by kernel_rfl) (fun k hk => by cases hk) (by kernel_rfl) (laidMet_of_run' 12 (by kernel_rfl) (by kernel_rfl)))) ?_
  intro W base args ds gs before hval hW _ _ hsz hL _ _
  exact contract H enc W base args ds gs before hval hW hsz hL

theorem said : Rows.EvalSwapsSaid :=
  OpenClaim.holds_of_cond 6 Tryd.f6 rfl rfl rfl rfl rfl rfl rfl ⟨rfl, rfl, rfl, rfl, rfl⟩ rfl rfl rfl rfl rfl (by kernel_rfl) Tryd.func6 (by kernel_rfl)
    (of_decide_eq_true (by kernel_rfl)) (by unfold Func.isWrapper; first | (rw [if_pos (by decide +kernel)]; kernel_rfl) | (rw [if_neg (by decide +kernel)]; exact ⟨rfl, rfl⟩))
    (fun os started H enc _ F => by rw [OpenClaim.pre_eq_preRow]; exact lifted os started H enc F)

theorem plain (f : FuncId) (fn : Func) (hf : Tryd.pinned.checked.prog.funcNamed "sluicebook/sluicelaw4.EvalSwaps" = some f) (hfn : Tryd.pinned.checked.prog.funcs[f]? = some fn) :
    true = Tryd.pinned.checked.prog.looks [] ∧ ∀ (j : Nat) t, fn.params[j]? = some t → Tryd.pinned.checked.prog.wantsStandIn t = false := by
  obtain rfl : f = 6 := Option.some.inj ((show Tryd.prog.funcNamed "sluicebook/sluicelaw4.EvalSwaps" = some 6 by kernel_rfl).symm.trans hf) |>.symm
  obtain rfl : fn = Tryd.f6 := (Option.some.inj (Tryd.func6.symm.trans hfn)).symm
  refine ⟨by kernel_rfl, fun j t ht => ?_⟩
  rw [Tryd.params6] at ht
  have hm := Array.mem_of_getElem? ht
  simp only [List.mem_toArray, List.mem_cons, List.not_mem_nil, or_false] at hm
  rcases hm with rfl | rfl
  · exact (show Tryd.prog.wantsStandIn 33 = false by kernel_rfl)
  · exact (show Tryd.prog.wantsStandIn 33 = false by kernel_rfl)

theorem card : Rows.EvalSwapsCardSaid :=
  Claim7.holds_tied_plain_at .later [] _ _ _ _ said (fun _ h => by cases h) (by kernel_rfl) (fun _ h => by cases h) evalSwaps_row_tie rfl ⟨rfl, rfl⟩ (by kernel_rfl) rfl plain (by kernel_rfl)
#print axioms card
end Go.Proofs.YtjjneldijeckcaaDoor.evalSwaps
