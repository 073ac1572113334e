/- Of the law TreeBinds: the card Rows.TreeBindsCardSaid: whatever the two numbers, it returns true. No conditions but what the card itself asks. -/
import Derived.Test.YtpbbkpfaphjdoaaGreatDoorBindLaw
import Derived.Test.YtpbbkpfaphjdoaaGreatDoorTold
import Derived.Test.YtpbbkpfaphjdoaaGreatDoorCards
import Derived.Test.YtpbbkpfaphjdoaaGreatDoorTie
import Derived.LaidLaws
import Derived.LaidMore
import Derived.LaidHandle
import Derived.Stop.Joined
import Derived.SevenTiedAt
import Derived.Deep.DeepWitnessRowRef
import Derived.Deep.DeepHandedRow
import Derived.Deep.Cut
import Derived.Deep.CutRange
import Derived.Deep.DeepCutAuto
namespace Go.Proofs.YtpbbkpfaphjdoaaGreatDoor.treeBinds
open Go.ChangeShapes Go.WideShapes Go.ChangeAt Go.RowKit

def signV : Array Value := #[.string ⟨#[111, 114]⟩, .string ⟨#[97, 110, 100]⟩, .string ⟨#[61]⟩, .string ⟨#[60]⟩, .string ⟨#[43]⟩, .string ⟨#[45]⟩, .string ⟨#[42]⟩, .string ⟨#[47]⟩, .string ⟨#[37]⟩]
def lvlV : Array Value := #[.int .i64 0, .int .i64 1, .int .i64 2, .int .i64 2, .int .i64 3, .int .i64 3, .int .i64 4, .int .i64 4, .int .i64 4]
theorem sign_at {k : Nat} (h : k < 9) : signV[k]? = some (.string (mkB (sgB k))) := by
  rcases k with _ | _ | _ | _ | _ | _ | _ | _ | _ | k
  all_goals first | rfl | omega
theorem lvl_at {k : Nat} (h : k < 9) : lvlV[k]? = some (.int .i64 (lvB9 k)) := by
  rcases k with _ | _ | _ | _ | _ | _ | _ | _ | _ | k
  all_goals first | rfl | omega
/-- What comes of a parse, in one form. -/
theorem psays_one {R : Except (Int × Int) Ex} {w w' : World} {e : Ending} (h : PSays R w e w') : ∃ y hh pp, e = .returned (.tuple #[exV y, faultV hh pp]) ∧ SeesS (fun b => w.heap.size ≤ b) w' y ∧ Below w.heap.size w w' ∧ ((∃ x, R = .ok x ∧ hh = 0 ∧ pp = 0 ∧ strip y = x) ∨ R = .error (hh, pp)) := by
  obtain ⟨hb, h⟩ := h
  match R, h with
  | .error (hh, pp), h => exact ⟨zeroE, hh, pp, h, .mk (Sees.nil w' 7) (fun g o e _ => by cases e) (Nat.zero_le _) (Nat.zero_le _) ⟨show fits 0 by decide, show fits 0 by decide, Nat.zero_le _⟩ (show fits 0 by decide) (fun a h => by cases h), hb, Or.inr rfl⟩
  | .ok x, h =>
    obtain ⟨y, he, hs, hst⟩ := h
    exact ⟨y, 0, 0, he, hs, hb, Or.inl ⟨x, rfl, rfl, rfl, hst⟩⟩
/-- The tables that a parse wants. -/
structure Tabs (w : World) : Prop where
  lev : LevelsT w
  words : WordsT w
  text : TextT w
  num : NumT w
  signs : SignsT w
theorem Tabs.keep {w w' : World} (h : Tabs w) (hb : Below w.heap.size w w') : Tabs w' := ⟨h.lev.keep hb, h.words.keep hb, h.text.keep hb, h.num.keep hb, h.signs.keep hb⟩
def OneSays (R : Except (Int × Int) Ex) (w : World) (e : Ending) (w' : World) : Prop := ∃ y hh pp, e = .returned (.tuple #[exV y, faultV hh pp]) ∧ SeesS (fun b => w.heap.size ≤ b) w' y ∧ Below w.heap.size w w' ∧ ((∃ x, R = .ok x ∧ hh = 0 ∧ pp = 0 ∧ strip y = x) ∨ R = .error (hh, pp))
theorem parse_one (s : ByteArray) (hs : s.size ≤ 400) {R : Except (Int × Int) Ex} (hR : parseF s.data.toList = some R) (w : World) (hT : Tabs w) : Calls Tryz.prog 27 #[.string s] w (OneSays R w) :=
  (rdParse_any s (by unfold maxLen; omega) (parseF_sound hs hR) w hT.lev hT.words hT.text hT.num hT.signs).mono fun _ _ h => psays_one h
/-- What a parse leaves in two boxes of its own. -/
def CutSays (R : Except (Int × Int) Ex) (w1 : World) (v7 v8 : Value) (wx : World) : Prop := ∃ p7 p8 y hh pp, v7 = .pointer (some ⟨p7, 0, none⟩) ∧ v8 = .pointer (some ⟨p8, 0, none⟩) ∧ Own7 wx p7 y ∧ Own2F wx p8 hh pp ∧ SeesEx wx y ∧ Below w1.heap.size w1 wx ∧ ((∃ x, R = .ok x ∧ hh = 0 ∧ pp = 0 ∧ strip y = x) ∨ R = .error (hh, pp))
theorem alloc_size (w : World) (o : Obj) : (w.alloc o).heap.size = w.heap.size + 1 := by show (w.heap.push _).size = _; exact Array.size_push _
theorem lv_le (k : Nat) : lvB9 k ≤ 4 := by
  rcases k with _ | _ | _ | _ | _ | _ | _ | _ | _ | k
  all_goals first | exact Nat.le_of_ble_eq_true rfl | (unfold lvB9; simp)
theorem bind_cases {na nb : Nat} {R : Except (Int × Int) Ex} (h : bindOk na nb = true) (hR : parseF (txt3 na nb) = some R) :
    (lvB9 na = 2 ∧ lvB9 nb = 2 ∧ R = .error (2, 5 + ((sgB na).length : Int))) ∨ (¬ (lvB9 na = 2 ∧ lvB9 nb = 2) ∧ ∃ x z, R = .ok x ∧ parseF (if lvB9 na < lvB9 nb then txtR na nb else txtL na nb) = some (.ok z) ∧ exSame x z = true) := by
  unfold bindOk at h
  rw [hR] at h
  match R, h with
  | .error (hh, pp), h =>
    simp only [Bool.and_eq_true, beq_iff_eq] at h
    obtain ⟨⟨⟨h1, h2⟩, h3⟩, h4⟩ := h
    exact Or.inl ⟨h1, h2, by rw [h3, h4]⟩
  | .ok x, h =>
    simp only [Bool.and_eq_true, Bool.not_eq_true'] at h
    obtain ⟨h1, h2⟩ := h
    refine Or.inr ⟨fun e => by rw [e.1, e.2] at h1; exact Bool.noConfusion h1, x, ?_⟩
    split at h2
    · rename_i z hz; exact ⟨z, rfl, hz, h2⟩
    · cases h2
theorem sg_len (k : Nat) : (sgB k).length ≤ 3 := by
  rcases k with _ | _ | _ | _ | _ | _ | _ | _ | _ | k
  all_goals first | exact Nat.le_of_ble_eq_true rfl | (unfold sgB; simp)
set_option maxHeartbeats 4000000 in
set_option maxRecDepth 100000 in
theorem walk (a b : Int) (w : World) (hT : Tabs w) : Calls Tryz.prog 6 #[.int .i64 a, .int .i64 b] w fun e w' => e = .returned (.bool true) ∧ Below w.heap.size w w' := by
  obtain ⟨w0, hw0⟩ : ∃ w0, w.alloc (.cells signV 9) = w0 := ⟨_, rfl⟩
  obtain ⟨w1, hw1⟩ : ∃ w1, w0.alloc (.cells lvlV 3) = w1 := ⟨_, rfl⟩
  have hb0 : Below w.heap.size w w0 := by rw [← hw0]; exact belowNew' _ _
  have hb1 : Below w0.heap.size w0 w1 := by rw [← hw1]; exact belowNew' _ _
  have ho0 : w0.heap[w.heap.size]? = some (.cells signV 9 (0, 0)) := by rw [← hw0]; exact heap_alloc_new w _
  have ho1 : w1.heap[w0.heap.size]? = some (.cells lvlV 3 (0, 0)) := by rw [← hw1]; exact heap_alloc_new w0 _
  have ho01 : w1.heap[w.heap.size]? = some (.cells signV 9 (0, 0)) := (hb1.block _ (Array.getElem?_eq_some_iff.1 ho0).1).trans ho0
  have HB1 := Lib.hid (below_step hb0 hb1)
  have HT1 := Lib.hid (hT.keep HB1.out)
  have HSZ := Lib.hid (show w.heap.size < w0.heap.size ∧ w0.heap.size < w1.heap.size from ⟨(Array.getElem?_eq_some_iff.1 ho0).1, (Array.getElem?_eq_some_iff.1 ho1).1⟩)
  have hw0' := hw0
  have hw1' := hw1
  unfold signV at hw0'
  unfold lvlV at hw1'
  have HW0 := Lib.hid hw0'
  have HW1 := Lib.hid hw1'
  clear hw0 hw1 hw0' hw1' hb0 hb1 ho0 hT
  by_cases ha0 : a < 0
  · have f0 : decide (a < 0) = true := decide_eq_true ha0
    go_enter Tryz.func6, Tryz.ntmps6
    go_wp2_with (first | rw [HW0.out] | rw [HW1.out])
    go_ret
    exact ⟨rfl, HB1.out⟩
  by_cases ha1 : 8 < a
  · have f0 : decide (8 < a) = true := decide_eq_true ha1
    have f1 : decide (a < 0) = false := decide_eq_false ha0
    go_enter Tryz.func6, Tryz.ntmps6
    go_wp2_with (first | rw [HW0.out] | rw [HW1.out])
    go_ret
    exact ⟨rfl, HB1.out⟩
  by_cases hb0 : b < 0
  · have f0 : decide (b < 0) = true := decide_eq_true hb0
    have f1 : decide (a < 0) = false := decide_eq_false ha0
    have f2 : decide (8 < a) = false := decide_eq_false ha1
    go_enter Tryz.func6, Tryz.ntmps6
    go_wp2_with (first | rw [HW0.out] | rw [HW1.out])
    go_ret
    exact ⟨rfl, HB1.out⟩
  by_cases hb1 : 8 < b
  · have f0 : decide (8 < b) = true := decide_eq_true hb1
    have f1 : decide (a < 0) = false := decide_eq_false ha0
    have f2 : decide (8 < a) = false := decide_eq_false ha1
    have f3 : decide (b < 0) = false := decide_eq_false hb0
    go_enter Tryz.func6, Tryz.ntmps6
    go_wp2_with (first | rw [HW0.out] | rw [HW1.out])
    go_ret
    exact ⟨rfl, HB1.out⟩
  have hna : ∃ n : Nat, a = n ∧ n < 9 := ⟨a.toNat, by omega, by omega⟩
  have hnb : ∃ n : Nat, b = n ∧ n < 9 := ⟨b.toNat, by omega, by omega⟩
  obtain ⟨na, rfl, hna⟩ := hna
  obtain ⟨nb, rfl, hnb⟩ := hnb
  have c0 : w1.cell? ⟨w.heap.size, na, none⟩ = some (.string (mkB (sgB na))) := by rw [cell_of_row _ _ _ _ _ _ ho01]; exact sign_at hna
  have c1 : w1.cell? ⟨w.heap.size, nb, none⟩ = some (.string (mkB (sgB nb))) := by rw [cell_of_row _ _ _ _ _ _ ho01]; exact sign_at hnb
  have HC := Lib.hid (show (∀ w', Below w1.heap.size w1 w' → w'.cell? ⟨w.heap.size, na, none⟩ = some (.string (mkB (sgB na))) ∧ w'.cell? ⟨w.heap.size, nb, none⟩ = some (.string (mkB (sgB nb)))) from fun w' hb => ⟨(hb.cell (p := ⟨w.heap.size, na, none⟩) (Array.getElem?_eq_some_iff.1 ho01).1).trans c0, (hb.cell (p := ⟨w.heap.size, nb, none⟩) (Array.getElem?_eq_some_iff.1 ho01).1).trans c1⟩)
  have HL := Lib.hid (show (∀ w', Below w1.heap.size w1 w' → w'.cell? ⟨w0.heap.size, na, none⟩ = some (.int .i64 (lvB9 na)) ∧ w'.cell? ⟨w0.heap.size, nb, none⟩ = some (.int .i64 (lvB9 nb))) from fun w' hb => ⟨(hb.cell (p := ⟨w0.heap.size, na, none⟩) (Array.getElem?_eq_some_iff.1 ho1).1).trans (by rw [cell_of_row _ _ _ _ _ _ ho1]; exact lvl_at hna), (hb.cell (p := ⟨w0.heap.size, nb, none⟩) (Array.getElem?_eq_some_iff.1 ho1).1).trans (by rw [cell_of_row _ _ _ _ _ _ ho1]; exact lvl_at hnb)⟩)
  have HOK := Lib.hid (show bindOk na nb = true from (List.all_eq_true.1 ((List.all_eq_true.1 bind_all) na (List.mem_range.2 hna))) nb (List.mem_range.2 hnb))
  obtain ⟨R, hR⟩ : ∃ R, parseF (txt3 na nb) = some R := by
    have h := HOK.out
    unfold bindOk at h
    split at h
    · rename_i hh pp he; exact ⟨_, he⟩
    · rename_i x he; exact ⟨_, he⟩
    · cases h
  have HR := Lib.hid hR
  have HSM := Lib.hid (show (sgB na).length ≤ 3 ∧ (sgB nb).length ≤ 3 from ⟨sg_len na, sg_len nb⟩)
  obtain ⟨sa, hsa⟩ : ∃ sa, mkB (sgB na) = sa := ⟨_, rfl⟩
  obtain ⟨sb, hsb⟩ : ∃ sb, mkB (sgB nb) = sb := ⟨_, rfl⟩
  rw [hsa] at c0 HC
  rw [hsb] at c1 HC
  have HSA := Lib.hid hsa
  have HSB := Lib.hid hsb
  have hsa3 : sa.size ≤ 3 := by rw [← hsa]; exact sg_len na
  have hsb3 : sb.size ≤ 3 := by rw [← hsb]; exact sg_len nb
  have HTX := Lib.hid (show ((((⟨#[120, 32]⟩ ++ sa) ++ ⟨#[32, 121, 32]⟩) ++ sb) ++ ⟨#[32, 122]⟩ : ByteArray).data.toList = txt3 na nb by subst hsa hsb; simp [txt3, mkB])
  have HPAR := Lib.hid (show ∀ wc, Below w1.heap.size w1 wc → Calls Tryz.prog 27 #[.string ((((⟨#[120, 32]⟩ ++ sa) ++ ⟨#[32, 121, 32]⟩) ++ sb) ++ ⟨#[32, 122]⟩)] wc (OneSays R wc) from fun wc hb => parse_one _ (by rw [ByteArray.size_append, ByteArray.size_append, ByteArray.size_append, ByteArray.size_append]; have h1 : (⟨#[120, 32]⟩ : ByteArray).size = 2 := rfl; have h2 : (⟨#[32, 121, 32]⟩ : ByteArray).size = 3 := rfl; have h3 : (⟨#[32, 122]⟩ : ByteArray).size = 2 := rfl; omega) (by rw [HTX.out]; exact hR) wc (HT1.out.keep hb))
  clear c0 c1 hsa hsb ho1 ho01 hR
  have a0 : decide ((na : Int) < 0) = false := decide_eq_false (by omega)
  have a1 : decide ((8 : Int) < (na : Int)) = false := decide_eq_false (by omega)
  have b0 : decide ((nb : Int) < 0) = false := decide_eq_false (by omega)
  have b1 : decide ((8 : Int) < (nb : Int)) = false := decide_eq_false (by omega)
  clear ha0 ha1 hb0 hb1
  go_enter Tryz.func6, Tryz.ntmps6
  go_upto_region 5 with (first | rw [HW0.out] | rw [HW1.out])
  go_cut [7, 8, 28, 41, 42, 43] (fun v7 v8 v28 v41 v42 v43 wx => CutSays R w1 v7 v8 wx)
  case first =>
   refine wp_region_held (S := fun w' => w'.cell? ⟨w.heap.size, na, none⟩ = some (.string sa) ∧ w'.cell? ⟨w.heap.size, nb, none⟩ = some (.string sb)) (by kernel_rfl) ?_
   change wpAnyH _ _ _ _ _ _ _ _ (World.drew w1)
   have HS : (fun w' : World => w'.cell? ⟨w.heap.size, na, none⟩ = some (.string sa) ∧ w'.cell? ⟨w.heap.size, nb, none⟩ = some (.string sb)) (World.drew w1) := HC.out (World.drew w1) (Below.refl _ _).drew
   refine takeH (i := 0) (d := some 29) (v := .slice (some ⟨w.heap.size, 0, none⟩) 9 9) rfl rfl (by kernel_rfl) (by kernel_rfl) (by kernel_rfl) (fun _ _ _ h => h) (Or.inl ⟨by rfl, fun w' hS => by obtain ⟨s0, s1⟩ := hS; first | (go_simp; done) | (go_simp; omega) | (go_simp; intro h; omega)⟩) HS ?_
   simp only [Act.put, List.setIfInBounds_toArray, List.set_cons_zero, List.set_cons_succ]
   refine takeH (i := 1) (d := some 30) (v := .int .i64 na) rfl rfl (by kernel_rfl) (by kernel_rfl) (by kernel_rfl) (fun _ _ _ h => h) (Or.inl ⟨by rfl, fun w' hS => by obtain ⟨s0, s1⟩ := hS; first | (go_simp; done) | (go_simp; omega) | (go_simp; intro h; omega)⟩) HS ?_
   simp only [Act.put, List.setIfInBounds_toArray, List.set_cons_zero, List.set_cons_succ]
   refine takeH (i := 2) (d := some 31) (v := .pointer (some ⟨w.heap.size, na, none⟩)) rfl rfl (by kernel_rfl) (by kernel_rfl) (by kernel_rfl) (fun _ _ _ h => h) (Or.inl ⟨by rfl, fun w' hS => by obtain ⟨s0, s1⟩ := hS; first | (go_simp; done) | (go_simp; omega) | (go_simp; intro h; omega)⟩) HS ?_
   simp only [Act.put, List.setIfInBounds_toArray, List.set_cons_zero, List.set_cons_succ]
   refine takeH (i := 3) (d := some 32) (v := .string sa) rfl rfl (by kernel_rfl) (by kernel_rfl) (by kernel_rfl) (fun _ _ _ h => h) (Or.inl ⟨by rfl, fun w' hS => by obtain ⟨s0, s1⟩ := hS; first | (go_simp; done) | (go_simp; omega) | (go_simp; intro h; omega)⟩) HS ?_
   simp only [Act.put, List.setIfInBounds_toArray, List.set_cons_zero, List.set_cons_succ]
   refine takeH (i := 4) (d := some 33) (v := .string (⟨#[120, 32]⟩ ++ sa)) rfl rfl (by kernel_rfl) (by kernel_rfl) (by kernel_rfl) (fun _ _ _ h => h) (Or.inl ⟨by rfl, fun w' hS => by obtain ⟨s0, s1⟩ := hS; first | (go_simp; done) | (go_simp; omega) | (go_simp; intro h; omega)⟩) HS ?_
   simp only [Act.put, List.setIfInBounds_toArray, List.set_cons_zero, List.set_cons_succ]
   refine takeH (i := 5) (d := some 34) (v := .string ((⟨#[120, 32]⟩ ++ sa) ++ ⟨#[32, 121, 32]⟩)) rfl rfl (by kernel_rfl) (by kernel_rfl) (by kernel_rfl) (fun _ _ _ h => h) (Or.inl ⟨by rfl, fun w' hS => by obtain ⟨s0, s1⟩ := hS; first | (go_simp; done) | (go_simp; omega) | (go_simp; intro h; omega)⟩) HS ?_
   simp only [Act.put, List.setIfInBounds_toArray, List.set_cons_zero, List.set_cons_succ]
   refine takeH (i := 6) (d := some 35) (v := .slice (some ⟨w.heap.size, 0, none⟩) 9 9) rfl rfl (by kernel_rfl) (by kernel_rfl) (by kernel_rfl) (fun _ _ _ h => h) (Or.inl ⟨by rfl, fun w' hS => by obtain ⟨s0, s1⟩ := hS; first | (go_simp; done) | (go_simp; omega) | (go_simp; intro h; omega)⟩) HS ?_
   simp only [Act.put, List.setIfInBounds_toArray, List.set_cons_zero, List.set_cons_succ]
   refine takeH (i := 7) (d := some 36) (v := .int .i64 nb) rfl rfl (by kernel_rfl) (by kernel_rfl) (by kernel_rfl) (fun _ _ _ h => h) (Or.inl ⟨by rfl, fun w' hS => by obtain ⟨s0, s1⟩ := hS; first | (go_simp; done) | (go_simp; omega) | (go_simp; intro h; omega)⟩) HS ?_
   simp only [Act.put, List.setIfInBounds_toArray, List.set_cons_zero, List.set_cons_succ]
   refine takeH (i := 8) (d := some 37) (v := .pointer (some ⟨w.heap.size, nb, none⟩)) rfl rfl (by kernel_rfl) (by kernel_rfl) (by kernel_rfl) (fun _ _ _ h => h) (Or.inl ⟨by rfl, fun w' hS => by obtain ⟨s0, s1⟩ := hS; first | (go_simp; done) | (go_simp; omega) | (go_simp; intro h; omega)⟩) HS ?_
   simp only [Act.put, List.setIfInBounds_toArray, List.set_cons_zero, List.set_cons_succ]
   refine takeH (i := 9) (d := some 38) (v := .string sb) rfl rfl (by kernel_rfl) (by kernel_rfl) (by kernel_rfl) (fun _ _ _ h => h) (Or.inl ⟨by rfl, fun w' hS => by obtain ⟨s0, s1⟩ := hS; first | (go_simp; done) | (go_simp; omega) | (go_simp; intro h; omega)⟩) HS ?_
   simp only [Act.put, List.setIfInBounds_toArray, List.set_cons_zero, List.set_cons_succ]
   refine takeH (i := 10) (d := some 39) (v := .string (((⟨#[120, 32]⟩ ++ sa) ++ ⟨#[32, 121, 32]⟩) ++ sb)) rfl rfl (by kernel_rfl) (by kernel_rfl) (by kernel_rfl) (fun _ _ _ h => h) (Or.inl ⟨by rfl, fun w' hS => by obtain ⟨s0, s1⟩ := hS; first | (go_simp; done) | (go_simp; omega) | (go_simp; intro h; omega)⟩) HS ?_
   simp only [Act.put, List.setIfInBounds_toArray, List.set_cons_zero, List.set_cons_succ]
   refine takeH (i := 11) (d := some 40) (v := .string ((((⟨#[120, 32]⟩ ++ sa) ++ ⟨#[32, 121, 32]⟩) ++ sb) ++ ⟨#[32, 122]⟩)) rfl rfl (by kernel_rfl) (by kernel_rfl) (by kernel_rfl) (fun _ _ _ h => h) (Or.inl ⟨by rfl, fun w' hS => by obtain ⟨s0, s1⟩ := hS; first | (go_simp; done) | (go_simp; omega) | (go_simp; intro h; omega)⟩) HS ?_
   simp only [Act.put, List.setIfInBounds_toArray, List.set_cons_zero, List.set_cons_succ]
   generalize hgx : (((((⟨#[120, 32]⟩ ++ sa) ++ ⟨#[32, 121, 32]⟩) ++ sb) ++ ⟨#[32, 122]⟩) : ByteArray) = tx at HPAR HTX ⊢
   clear hgx
   have HBwd := Lib.hid (show Below w1.heap.size w1 (World.drew w1) from (Below.refl _ _).drew)
   generalize World.drew w1 = wd at HBwd HS ⊢
   refine wpAnyH_all (rs := [12, 16, 17]) (by kernel_rfl) (by simp) (fun jj hj => ?_)
   rcases (by simpa using hj : jj = 12 ∨ jj = 16 ∨ jj = 17) with rfl | rfl | rfl
   · skip
     refine wpOp_returnsD (d := some 41) rfl rfl (by rfl) (f := 27) (args := #[.string tx]) (by go_simp) (HPAR.out wd HBwd.out) ?_
     rintro e x2 ⟨y, hh, pp, rfl, hy, hbx2, hcase⟩
     have HBx2 := Lib.hid (below_step HBwd.out hbx2)
     have hyl := seesS_lt2 hy
     refine ⟨_, rfl, HC.out x2 HBx2.out, ?_⟩
     unfold exV faultV
     simp only [Act.put, List.setIfInBounds_toArray, List.set_cons_zero, List.set_cons_succ]
     refine takeH (i := 13) (d := some 28) (v := .tuple #[.agg #[.string y.op, .string y.name, .int .i64 y.val.type, .int .i64 y.val.n, .string y.val.s, .slice y.A y.args.length y.c, .int .i64 y.pos], .agg #[.int .i64 hh, .int .i64 pp]]) rfl rfl (by kernel_rfl) (by kernel_rfl) (by kernel_rfl) (fun _ _ _ h => h) (Or.inl ⟨by rfl, fun w' hS => by go_simp⟩) (HC.out x2 HBx2.out) ?_
     simp only [Act.put, List.setIfInBounds_toArray, List.set_cons_zero, List.set_cons_succ]
     refine takeH (i := 14) (d := some 42) (v := .agg #[.string y.op, .string y.name, .int .i64 y.val.type, .int .i64 y.val.n, .string y.val.s, .slice y.A y.args.length y.c, .int .i64 y.pos]) rfl rfl (by kernel_rfl) (by kernel_rfl) (by kernel_rfl) (fun _ _ _ h => h) (Or.inl ⟨by rfl, fun w' hS => by go_simp⟩) (HC.out x2 HBx2.out) ?_
     simp only [Act.put, List.setIfInBounds_toArray, List.set_cons_zero, List.set_cons_succ]
     refine takeH (i := 15) (d := some 43) (v := .agg #[.int .i64 hh, .int .i64 pp]) rfl rfl (by kernel_rfl) (by kernel_rfl) (by kernel_rfl) (fun _ _ _ h => h) (Or.inl ⟨by rfl, fun w' hS => by go_simp⟩) (HC.out x2 HBx2.out) ?_
     simp only [Act.put, List.setIfInBounds_toArray, List.set_cons_zero, List.set_cons_succ]
     refine wpAnyH_all (rs := [16, 17]) (by kernel_rfl) (by simp) (fun jj hj => ?_)
     rcases (by simpa using hj : jj = 16 ∨ jj = 17) with rfl | rfl
     · skip
       have hbx3 := belowNew' x2 (.cells #[.string ⟨#[]⟩, .string ⟨#[]⟩, .int .i64 0, .int .i64 0, .string ⟨#[]⟩, .slice none 0 0, .int .i64 0] 26)
       have ho7 : Own7 (World.alloc x2 (.cells #[.string ⟨#[]⟩, .string ⟨#[]⟩, .int .i64 0, .int .i64 0, .string ⟨#[]⟩, .slice none 0 0, .int .i64 0] 26)) x2.heap.size zeroE := own7_new x2 zeroE
       refine wpOp_valueD (d := some 7) rfl rfl (by rfl) (v := .pointer (some ⟨x2.heap.size, 0, none⟩)) (w' := World.alloc x2 (.cells #[.string ⟨#[]⟩, .string ⟨#[]⟩, .int .i64 0, .int .i64 0, .string ⟨#[]⟩, .slice none 0 0, .int .i64 0] 26)) (by go_simp) ?_
       generalize World.alloc x2 (.cells #[.string ⟨#[]⟩, .string ⟨#[]⟩, .int .i64 0, .int .i64 0, .string ⟨#[]⟩, .slice none 0 0, .int .i64 0] 26) = x3 at hbx3 ho7 ⊢
       have HBx3 := Lib.hid (below_step HBx2.out hbx3)
       refine ⟨HC.out x3 HBx3.out, ?_⟩
       simp only [Act.put, List.setIfInBounds_toArray, List.set_cons_zero, List.set_cons_succ]
       refine wpAnyH_all (rs := [17]) (by kernel_rfl) (by simp) (fun jj hj => ?_)
       obtain rfl : jj = 17 := by simpa using hj
       have hbx4 := belowNew' x3 (.cells #[.int .i64 0, .int .i64 0] 34)
       have ho8 : Own2F (World.alloc x3 (.cells #[.int .i64 0, .int .i64 0] 34)) x3.heap.size 0 0 := own2f_new x3 0 0
       refine wpOp_valueD (d := some 8) rfl rfl (by rfl) (v := .pointer (some ⟨x3.heap.size, 0, none⟩)) (w' := World.alloc x3 (.cells #[.int .i64 0, .int .i64 0] 34)) (by go_simp) ?_
       generalize World.alloc x3 (.cells #[.int .i64 0, .int .i64 0] 34) = x4 at hbx4 ho8 ⊢
       have HBx4 := Lib.hid (below_step HBx3.out hbx4)
       refine ⟨HC.out x4 HBx4.out, ?_⟩
       simp only [Act.put, List.setIfInBounds_toArray, List.set_cons_zero, List.set_cons_succ]
       refine wpAnyH_all (rs := [18]) (by kernel_rfl) (by simp) (fun jj hj => ?_)
       obtain rfl : jj = 18 := by simpa using hj
       have HSZS := Lib.hid (show w1.heap.size ≤ wd.heap.size ∧ wd.heap.size ≤ x2.heap.size ∧ True ∧ x2.heap.size ≤ x3.heap.size ∧ x2.heap.size < x3.heap.size ∧ x3.heap.size ≤ x4.heap.size ∧ x3.heap.size < x4.heap.size from ⟨HBwd.out.size, hbx2.size, trivial, hbx3.size, ho7.lt, hbx4.size, ho8.lt⟩)
       have hzz : Own7 x4 x2.heap.size zeroE := (ho7.keep hbx4)
       refine wpOp_store7 rfl rfl _ _ rfl rfl (X := y) hzz rfl rfl ?_
       intro wf hzf hof
       have hbf : Below w1.heap.size w1 wf := HBx4.out.trans (hof.below HBx4.out.size (fun k e => by have e' : k = x2.heap.size := e; have := HSZS.out; omega))
       refine ⟨HC.out wf hbf, ?_⟩
       refine wpAnyH_all (rs := [19]) (by kernel_rfl) (by simp) (fun jj hj => ?_)
       obtain rfl : jj = 19 := by simpa using hj
       have hff : Own2F wf x3.heap.size 0 0 := Own2F.only ho8 hof (fun e => by have e' : x3.heap.size = x2.heap.size := e; have := HSZS.out; omega)
       refine wpOp_store2 rfl rfl _ _ rfl rfl (h := hh) (p := pp) hff rfl rfl ?_
       intro wg hzg hog
       have hbg : Below w1.heap.size w1 wg := hbf.trans (hog.below hbf.size (fun k e => by have e' : k = x3.heap.size := e; have := HSZS.out; omega))
       refine ⟨HC.out wg hbg, ?_⟩
       refine wpAnyH_done (by kernel_rfl) ?_ _
       have hsg : SeesEx wg y := ((((hyl.keep (Alike.of_below hbx3)).keep (Alike.of_below hbx4)).keep (alike_only2 hof (fun b hb e => by have e' : b = x2.heap.size := e; have := hb.1; have := hb.2; have := HSZS.out; omega))).keep (alike_only2 hog (fun b hb e => by have e' : b = x3.heap.size := e; have := hb.1; have := hb.2; have := HSZS.out; omega))).see
       have hog7 := own7_only hzf hog (fun e => by have e' : x2.heap.size = x3.heap.size := e; have := HSZS.out; omega)
       have HFIN := Lib.hid (show CutSays R w1 (.pointer (some ⟨x2.heap.size, 0, none⟩)) (.pointer (some ⟨x3.heap.size, 0, none⟩)) wg from ⟨_, _, y, hh, pp, rfl, rfl, hog7, hzg, hsg, hbg, hcase⟩)
       clear hzz hzf hof hbf hff hzg hog hbg hsg hog7
       go_wp2_with fail
       go_meet
       exact HFIN.out
     · skip
       have hbx3 := belowNew' x2 (.cells #[.int .i64 0, .int .i64 0] 34)
       have ho8 : Own2F (World.alloc x2 (.cells #[.int .i64 0, .int .i64 0] 34)) x2.heap.size 0 0 := own2f_new x2 0 0
       refine wpOp_valueD (d := some 8) rfl rfl (by rfl) (v := .pointer (some ⟨x2.heap.size, 0, none⟩)) (w' := World.alloc x2 (.cells #[.int .i64 0, .int .i64 0] 34)) (by go_simp) ?_
       generalize World.alloc x2 (.cells #[.int .i64 0, .int .i64 0] 34) = x3 at hbx3 ho8 ⊢
       have HBx3 := Lib.hid (below_step HBx2.out hbx3)
       refine ⟨HC.out x3 HBx3.out, ?_⟩
       simp only [Act.put, List.setIfInBounds_toArray, List.set_cons_zero, List.set_cons_succ]
       refine wpAnyH_all (rs := [16]) (by kernel_rfl) (by simp) (fun jj hj => ?_)
       obtain rfl : jj = 16 := by simpa using hj
       have hbx4 := belowNew' x3 (.cells #[.string ⟨#[]⟩, .string ⟨#[]⟩, .int .i64 0, .int .i64 0, .string ⟨#[]⟩, .slice none 0 0, .int .i64 0] 26)
       have ho7 : Own7 (World.alloc x3 (.cells #[.string ⟨#[]⟩, .string ⟨#[]⟩, .int .i64 0, .int .i64 0, .string ⟨#[]⟩, .slice none 0 0, .int .i64 0] 26)) x3.heap.size zeroE := own7_new x3 zeroE
       refine wpOp_valueD (d := some 7) rfl rfl (by rfl) (v := .pointer (some ⟨x3.heap.size, 0, none⟩)) (w' := World.alloc x3 (.cells #[.string ⟨#[]⟩, .string ⟨#[]⟩, .int .i64 0, .int .i64 0, .string ⟨#[]⟩, .slice none 0 0, .int .i64 0] 26)) (by go_simp) ?_
       generalize World.alloc x3 (.cells #[.string ⟨#[]⟩, .string ⟨#[]⟩, .int .i64 0, .int .i64 0, .string ⟨#[]⟩, .slice none 0 0, .int .i64 0] 26) = x4 at hbx4 ho7 ⊢
       have HBx4 := Lib.hid (below_step HBx3.out hbx4)
       refine ⟨HC.out x4 HBx4.out, ?_⟩
       simp only [Act.put, List.setIfInBounds_toArray, List.set_cons_zero, List.set_cons_succ]
       refine wpAnyH_all (rs := [18]) (by kernel_rfl) (by simp) (fun jj hj => ?_)
       obtain rfl : jj = 18 := by simpa using hj
       have HSZS := Lib.hid (show w1.heap.size ≤ wd.heap.size ∧ wd.heap.size ≤ x2.heap.size ∧ True ∧ x2.heap.size ≤ x3.heap.size ∧ x2.heap.size < x3.heap.size ∧ x3.heap.size ≤ x4.heap.size ∧ x3.heap.size < x4.heap.size from ⟨HBwd.out.size, hbx2.size, trivial, hbx3.size, ho8.lt, hbx4.size, ho7.lt⟩)
       have hzz : Own7 x4 x3.heap.size zeroE := ho7
       refine wpOp_store7 rfl rfl _ _ rfl rfl (X := y) hzz rfl rfl ?_
       intro wf hzf hof
       have hbf : Below w1.heap.size w1 wf := HBx4.out.trans (hof.below HBx4.out.size (fun k e => by have e' : k = x3.heap.size := e; have := HSZS.out; omega))
       refine ⟨HC.out wf hbf, ?_⟩
       refine wpAnyH_all (rs := [19]) (by kernel_rfl) (by simp) (fun jj hj => ?_)
       obtain rfl : jj = 19 := by simpa using hj
       have hff : Own2F wf x2.heap.size 0 0 := Own2F.only (ho8.keep hbx4) hof (fun e => by have e' : x2.heap.size = x3.heap.size := e; have := HSZS.out; omega)
       refine wpOp_store2 rfl rfl _ _ rfl rfl (h := hh) (p := pp) hff rfl rfl ?_
       intro wg hzg hog
       have hbg : Below w1.heap.size w1 wg := hbf.trans (hog.below hbf.size (fun k e => by have e' : k = x2.heap.size := e; have := HSZS.out; omega))
       refine ⟨HC.out wg hbg, ?_⟩
       refine wpAnyH_done (by kernel_rfl) ?_ _
       have hsg : SeesEx wg y := ((((hyl.keep (Alike.of_below hbx3)).keep (Alike.of_below hbx4)).keep (alike_only2 hof (fun b hb e => by have e' : b = x3.heap.size := e; have := hb.1; have := hb.2; have := HSZS.out; omega))).keep (alike_only2 hog (fun b hb e => by have e' : b = x2.heap.size := e; have := hb.1; have := hb.2; have := HSZS.out; omega))).see
       have hog7 := own7_only hzf hog (fun e => by have e' : x3.heap.size = x2.heap.size := e; have := HSZS.out; omega)
       have HFIN := Lib.hid (show CutSays R w1 (.pointer (some ⟨x3.heap.size, 0, none⟩)) (.pointer (some ⟨x2.heap.size, 0, none⟩)) wg from ⟨_, _, y, hh, pp, rfl, rfl, hog7, hzg, hsg, hbg, hcase⟩)
       clear hzz hzf hof hbf hff hzg hog hbg hsg hog7
       go_wp2_with fail
       go_meet
       exact HFIN.out
   · skip
     have hbx2 := belowNew' wd (.cells #[.string ⟨#[]⟩, .string ⟨#[]⟩, .int .i64 0, .int .i64 0, .string ⟨#[]⟩, .slice none 0 0, .int .i64 0] 26)
     have ho7 : Own7 (World.alloc wd (.cells #[.string ⟨#[]⟩, .string ⟨#[]⟩, .int .i64 0, .int .i64 0, .string ⟨#[]⟩, .slice none 0 0, .int .i64 0] 26)) wd.heap.size zeroE := own7_new wd zeroE
     refine wpOp_valueD (d := some 7) rfl rfl (by rfl) (v := .pointer (some ⟨wd.heap.size, 0, none⟩)) (w' := World.alloc wd (.cells #[.string ⟨#[]⟩, .string ⟨#[]⟩, .int .i64 0, .int .i64 0, .string ⟨#[]⟩, .slice none 0 0, .int .i64 0] 26)) (by go_simp) ?_
     generalize World.alloc wd (.cells #[.string ⟨#[]⟩, .string ⟨#[]⟩, .int .i64 0, .int .i64 0, .string ⟨#[]⟩, .slice none 0 0, .int .i64 0] 26) = x2 at hbx2 ho7 ⊢
     have HBx2 := Lib.hid (below_step HBwd.out hbx2)
     refine ⟨HC.out x2 HBx2.out, ?_⟩
     simp only [Act.put, List.setIfInBounds_toArray, List.set_cons_zero, List.set_cons_succ]
     refine wpAnyH_all (rs := [12, 17]) (by kernel_rfl) (by simp) (fun jj hj => ?_)
     rcases (by simpa using hj : jj = 12 ∨ jj = 17) with rfl | rfl
     · skip
       refine wpOp_returnsD (d := some 41) rfl rfl (by rfl) (f := 27) (args := #[.string tx]) (by go_simp) (HPAR.out x2 HBx2.out) ?_
       rintro e x3 ⟨y, hh, pp, rfl, hy, hbx3, hcase⟩
       have HBx3 := Lib.hid (below_step HBx2.out hbx3)
       have hyl := seesS_lt2 hy
       refine ⟨_, rfl, HC.out x3 HBx3.out, ?_⟩
       unfold exV faultV
       simp only [Act.put, List.setIfInBounds_toArray, List.set_cons_zero, List.set_cons_succ]
       refine takeH (i := 13) (d := some 28) (v := .tuple #[.agg #[.string y.op, .string y.name, .int .i64 y.val.type, .int .i64 y.val.n, .string y.val.s, .slice y.A y.args.length y.c, .int .i64 y.pos], .agg #[.int .i64 hh, .int .i64 pp]]) rfl rfl (by kernel_rfl) (by kernel_rfl) (by kernel_rfl) (fun _ _ _ h => h) (Or.inl ⟨by rfl, fun w' hS => by go_simp⟩) (HC.out x3 HBx3.out) ?_
       simp only [Act.put, List.setIfInBounds_toArray, List.set_cons_zero, List.set_cons_succ]
       refine takeH (i := 14) (d := some 42) (v := .agg #[.string y.op, .string y.name, .int .i64 y.val.type, .int .i64 y.val.n, .string y.val.s, .slice y.A y.args.length y.c, .int .i64 y.pos]) rfl rfl (by kernel_rfl) (by kernel_rfl) (by kernel_rfl) (fun _ _ _ h => h) (Or.inl ⟨by rfl, fun w' hS => by go_simp⟩) (HC.out x3 HBx3.out) ?_
       simp only [Act.put, List.setIfInBounds_toArray, List.set_cons_zero, List.set_cons_succ]
       refine takeH (i := 15) (d := some 43) (v := .agg #[.int .i64 hh, .int .i64 pp]) rfl rfl (by kernel_rfl) (by kernel_rfl) (by kernel_rfl) (fun _ _ _ h => h) (Or.inl ⟨by rfl, fun w' hS => by go_simp⟩) (HC.out x3 HBx3.out) ?_
       simp only [Act.put, List.setIfInBounds_toArray, List.set_cons_zero, List.set_cons_succ]
       refine wpAnyH_all (rs := [17]) (by kernel_rfl) (by simp) (fun jj hj => ?_)
       obtain rfl : jj = 17 := by simpa using hj
       have hbx4 := belowNew' x3 (.cells #[.int .i64 0, .int .i64 0] 34)
       have ho8 : Own2F (World.alloc x3 (.cells #[.int .i64 0, .int .i64 0] 34)) x3.heap.size 0 0 := own2f_new x3 0 0
       refine wpOp_valueD (d := some 8) rfl rfl (by rfl) (v := .pointer (some ⟨x3.heap.size, 0, none⟩)) (w' := World.alloc x3 (.cells #[.int .i64 0, .int .i64 0] 34)) (by go_simp) ?_
       generalize World.alloc x3 (.cells #[.int .i64 0, .int .i64 0] 34) = x4 at hbx4 ho8 ⊢
       have HBx4 := Lib.hid (below_step HBx3.out hbx4)
       refine ⟨HC.out x4 HBx4.out, ?_⟩
       simp only [Act.put, List.setIfInBounds_toArray, List.set_cons_zero, List.set_cons_succ]
       refine wpAnyH_all (rs := [18]) (by kernel_rfl) (by simp) (fun jj hj => ?_)
       obtain rfl : jj = 18 := by simpa using hj
       have HSZS := Lib.hid (show w1.heap.size ≤ wd.heap.size ∧ wd.heap.size ≤ x2.heap.size ∧ wd.heap.size < x2.heap.size ∧ x2.heap.size ≤ x3.heap.size ∧ True ∧ x3.heap.size ≤ x4.heap.size ∧ x3.heap.size < x4.heap.size from ⟨HBwd.out.size, hbx2.size, ho7.lt, hbx3.size, trivial, hbx4.size, ho8.lt⟩)
       have hzz : Own7 x4 wd.heap.size zeroE := ((ho7.keep hbx3).keep hbx4)
       refine wpOp_store7 rfl rfl _ _ rfl rfl (X := y) hzz rfl rfl ?_
       intro wf hzf hof
       have hbf : Below w1.heap.size w1 wf := HBx4.out.trans (hof.below HBx4.out.size (fun k e => by have e' : k = wd.heap.size := e; have := HSZS.out; omega))
       refine ⟨HC.out wf hbf, ?_⟩
       refine wpAnyH_all (rs := [19]) (by kernel_rfl) (by simp) (fun jj hj => ?_)
       obtain rfl : jj = 19 := by simpa using hj
       have hff : Own2F wf x3.heap.size 0 0 := Own2F.only ho8 hof (fun e => by have e' : x3.heap.size = wd.heap.size := e; have := HSZS.out; omega)
       refine wpOp_store2 rfl rfl _ _ rfl rfl (h := hh) (p := pp) hff rfl rfl ?_
       intro wg hzg hog
       have hbg : Below w1.heap.size w1 wg := hbf.trans (hog.below hbf.size (fun k e => by have e' : k = x3.heap.size := e; have := HSZS.out; omega))
       refine ⟨HC.out wg hbg, ?_⟩
       refine wpAnyH_done (by kernel_rfl) ?_ _
       have hsg : SeesEx wg y := (((hyl.keep (Alike.of_below hbx4)).keep (alike_only2 hof (fun b hb e => by have e' : b = wd.heap.size := e; have := hb.1; have := hb.2; have := HSZS.out; omega))).keep (alike_only2 hog (fun b hb e => by have e' : b = x3.heap.size := e; have := hb.1; have := hb.2; have := HSZS.out; omega))).see
       have hog7 := own7_only hzf hog (fun e => by have e' : wd.heap.size = x3.heap.size := e; have := HSZS.out; omega)
       have HFIN := Lib.hid (show CutSays R w1 (.pointer (some ⟨wd.heap.size, 0, none⟩)) (.pointer (some ⟨x3.heap.size, 0, none⟩)) wg from ⟨_, _, y, hh, pp, rfl, rfl, hog7, hzg, hsg, hbg, hcase⟩)
       clear hzz hzf hof hbf hff hzg hog hbg hsg hog7
       go_wp2_with fail
       go_meet
       exact HFIN.out
     · skip
       have hbx3 := belowNew' x2 (.cells #[.int .i64 0, .int .i64 0] 34)
       have ho8 : Own2F (World.alloc x2 (.cells #[.int .i64 0, .int .i64 0] 34)) x2.heap.size 0 0 := own2f_new x2 0 0
       refine wpOp_valueD (d := some 8) rfl rfl (by rfl) (v := .pointer (some ⟨x2.heap.size, 0, none⟩)) (w' := World.alloc x2 (.cells #[.int .i64 0, .int .i64 0] 34)) (by go_simp) ?_
       generalize World.alloc x2 (.cells #[.int .i64 0, .int .i64 0] 34) = x3 at hbx3 ho8 ⊢
       have HBx3 := Lib.hid (below_step HBx2.out hbx3)
       refine ⟨HC.out x3 HBx3.out, ?_⟩
       simp only [Act.put, List.setIfInBounds_toArray, List.set_cons_zero, List.set_cons_succ]
       refine wpAnyH_all (rs := [12]) (by kernel_rfl) (by simp) (fun jj hj => ?_)
       obtain rfl : jj = 12 := by simpa using hj
       refine wpOp_returnsD (d := some 41) rfl rfl (by rfl) (f := 27) (args := #[.string tx]) (by go_simp) (HPAR.out x3 HBx3.out) ?_
       rintro e x4 ⟨y, hh, pp, rfl, hy, hbx4, hcase⟩
       have HBx4 := Lib.hid (below_step HBx3.out hbx4)
       have hyl := seesS_lt2 hy
       refine ⟨_, rfl, HC.out x4 HBx4.out, ?_⟩
       unfold exV faultV
       simp only [Act.put, List.setIfInBounds_toArray, List.set_cons_zero, List.set_cons_succ]
       refine takeH (i := 13) (d := some 28) (v := .tuple #[.agg #[.string y.op, .string y.name, .int .i64 y.val.type, .int .i64 y.val.n, .string y.val.s, .slice y.A y.args.length y.c, .int .i64 y.pos], .agg #[.int .i64 hh, .int .i64 pp]]) rfl rfl (by kernel_rfl) (by kernel_rfl) (by kernel_rfl) (fun _ _ _ h => h) (Or.inl ⟨by rfl, fun w' hS => by go_simp⟩) (HC.out x4 HBx4.out) ?_
       simp only [Act.put, List.setIfInBounds_toArray, List.set_cons_zero, List.set_cons_succ]
       refine takeH (i := 14) (d := some 42) (v := .agg #[.string y.op, .string y.name, .int .i64 y.val.type, .int .i64 y.val.n, .string y.val.s, .slice y.A y.args.length y.c, .int .i64 y.pos]) rfl rfl (by kernel_rfl) (by kernel_rfl) (by kernel_rfl) (fun _ _ _ h => h) (Or.inl ⟨by rfl, fun w' hS => by go_simp⟩) (HC.out x4 HBx4.out) ?_
       simp only [Act.put, List.setIfInBounds_toArray, List.set_cons_zero, List.set_cons_succ]
       refine takeH (i := 15) (d := some 43) (v := .agg #[.int .i64 hh, .int .i64 pp]) rfl rfl (by kernel_rfl) (by kernel_rfl) (by kernel_rfl) (fun _ _ _ h => h) (Or.inl ⟨by rfl, fun w' hS => by go_simp⟩) (HC.out x4 HBx4.out) ?_
       simp only [Act.put, List.setIfInBounds_toArray, List.set_cons_zero, List.set_cons_succ]
       refine wpAnyH_all (rs := [18]) (by kernel_rfl) (by simp) (fun jj hj => ?_)
       obtain rfl : jj = 18 := by simpa using hj
       have HSZS := Lib.hid (show w1.heap.size ≤ wd.heap.size ∧ wd.heap.size ≤ x2.heap.size ∧ wd.heap.size < x2.heap.size ∧ x2.heap.size ≤ x3.heap.size ∧ x2.heap.size < x3.heap.size ∧ x3.heap.size ≤ x4.heap.size ∧ True from ⟨HBwd.out.size, hbx2.size, ho7.lt, hbx3.size, ho8.lt, hbx4.size, trivial⟩)
       have hzz : Own7 x4 wd.heap.size zeroE := ((ho7.keep hbx3).keep hbx4)
       refine wpOp_store7 rfl rfl _ _ rfl rfl (X := y) hzz rfl rfl ?_
       intro wf hzf hof
       have hbf : Below w1.heap.size w1 wf := HBx4.out.trans (hof.below HBx4.out.size (fun k e => by have e' : k = wd.heap.size := e; have := HSZS.out; omega))
       refine ⟨HC.out wf hbf, ?_⟩
       refine wpAnyH_all (rs := [19]) (by kernel_rfl) (by simp) (fun jj hj => ?_)
       obtain rfl : jj = 19 := by simpa using hj
       have hff : Own2F wf x2.heap.size 0 0 := Own2F.only (ho8.keep hbx4) hof (fun e => by have e' : x2.heap.size = wd.heap.size := e; have := HSZS.out; omega)
       refine wpOp_store2 rfl rfl _ _ rfl rfl (h := hh) (p := pp) hff rfl rfl ?_
       intro wg hzg hog
       have hbg : Below w1.heap.size w1 wg := hbf.trans (hog.below hbf.size (fun k e => by have e' : k = x2.heap.size := e; have := HSZS.out; omega))
       refine ⟨HC.out wg hbg, ?_⟩
       refine wpAnyH_done (by kernel_rfl) ?_ _
       have hsg : SeesEx wg y := ((hyl.keep (alike_only2 hof (fun b hb e => by have e' : b = wd.heap.size := e; have := hb.1; have := hb.2; have := HSZS.out; omega))).keep (alike_only2 hog (fun b hb e => by have e' : b = x2.heap.size := e; have := hb.1; have := hb.2; have := HSZS.out; omega))).see
       have hog7 := own7_only hzf hog (fun e => by have e' : wd.heap.size = x2.heap.size := e; have := HSZS.out; omega)
       have HFIN := Lib.hid (show CutSays R w1 (.pointer (some ⟨wd.heap.size, 0, none⟩)) (.pointer (some ⟨x2.heap.size, 0, none⟩)) wg from ⟨_, _, y, hh, pp, rfl, rfl, hog7, hzg, hsg, hbg, hcase⟩)
       clear hzz hzf hof hbf hff hzg hog hbg hsg hog7
       go_wp2_with fail
       go_meet
       exact HFIN.out
   · skip
     have hbx2 := belowNew' wd (.cells #[.int .i64 0, .int .i64 0] 34)
     have ho8 : Own2F (World.alloc wd (.cells #[.int .i64 0, .int .i64 0] 34)) wd.heap.size 0 0 := own2f_new wd 0 0
     refine wpOp_valueD (d := some 8) rfl rfl (by rfl) (v := .pointer (some ⟨wd.heap.size, 0, none⟩)) (w' := World.alloc wd (.cells #[.int .i64 0, .int .i64 0] 34)) (by go_simp) ?_
     generalize World.alloc wd (.cells #[.int .i64 0, .int .i64 0] 34) = x2 at hbx2 ho8 ⊢
     have HBx2 := Lib.hid (below_step HBwd.out hbx2)
     refine ⟨HC.out x2 HBx2.out, ?_⟩
     simp only [Act.put, List.setIfInBounds_toArray, List.set_cons_zero, List.set_cons_succ]
     refine wpAnyH_all (rs := [12, 16]) (by kernel_rfl) (by simp) (fun jj hj => ?_)
     rcases (by simpa using hj : jj = 12 ∨ jj = 16) with rfl | rfl
     · skip
       refine wpOp_returnsD (d := some 41) rfl rfl (by rfl) (f := 27) (args := #[.string tx]) (by go_simp) (HPAR.out x2 HBx2.out) ?_
       rintro e x3 ⟨y, hh, pp, rfl, hy, hbx3, hcase⟩
       have HBx3 := Lib.hid (below_step HBx2.out hbx3)
       have hyl := seesS_lt2 hy
       refine ⟨_, rfl, HC.out x3 HBx3.out, ?_⟩
       unfold exV faultV
       simp only [Act.put, List.setIfInBounds_toArray, List.set_cons_zero, List.set_cons_succ]
       refine takeH (i := 13) (d := some 28) (v := .tuple #[.agg #[.string y.op, .string y.name, .int .i64 y.val.type, .int .i64 y.val.n, .string y.val.s, .slice y.A y.args.length y.c, .int .i64 y.pos], .agg #[.int .i64 hh, .int .i64 pp]]) rfl rfl (by kernel_rfl) (by kernel_rfl) (by kernel_rfl) (fun _ _ _ h => h) (Or.inl ⟨by rfl, fun w' hS => by go_simp⟩) (HC.out x3 HBx3.out) ?_
       simp only [Act.put, List.setIfInBounds_toArray, List.set_cons_zero, List.set_cons_succ]
       refine takeH (i := 14) (d := some 42) (v := .agg #[.string y.op, .string y.name, .int .i64 y.val.type, .int .i64 y.val.n, .string y.val.s, .slice y.A y.args.length y.c, .int .i64 y.pos]) rfl rfl (by kernel_rfl) (by kernel_rfl) (by kernel_rfl) (fun _ _ _ h => h) (Or.inl ⟨by rfl, fun w' hS => by go_simp⟩) (HC.out x3 HBx3.out) ?_
       simp only [Act.put, List.setIfInBounds_toArray, List.set_cons_zero, List.set_cons_succ]
       refine takeH (i := 15) (d := some 43) (v := .agg #[.int .i64 hh, .int .i64 pp]) rfl rfl (by kernel_rfl) (by kernel_rfl) (by kernel_rfl) (fun _ _ _ h => h) (Or.inl ⟨by rfl, fun w' hS => by go_simp⟩) (HC.out x3 HBx3.out) ?_
       simp only [Act.put, List.setIfInBounds_toArray, List.set_cons_zero, List.set_cons_succ]
       refine wpAnyH_all (rs := [16]) (by kernel_rfl) (by simp) (fun jj hj => ?_)
       obtain rfl : jj = 16 := by simpa using hj
       have hbx4 := belowNew' x3 (.cells #[.string ⟨#[]⟩, .string ⟨#[]⟩, .int .i64 0, .int .i64 0, .string ⟨#[]⟩, .slice none 0 0, .int .i64 0] 26)
       have ho7 : Own7 (World.alloc x3 (.cells #[.string ⟨#[]⟩, .string ⟨#[]⟩, .int .i64 0, .int .i64 0, .string ⟨#[]⟩, .slice none 0 0, .int .i64 0] 26)) x3.heap.size zeroE := own7_new x3 zeroE
       refine wpOp_valueD (d := some 7) rfl rfl (by rfl) (v := .pointer (some ⟨x3.heap.size, 0, none⟩)) (w' := World.alloc x3 (.cells #[.string ⟨#[]⟩, .string ⟨#[]⟩, .int .i64 0, .int .i64 0, .string ⟨#[]⟩, .slice none 0 0, .int .i64 0] 26)) (by go_simp) ?_
       generalize World.alloc x3 (.cells #[.string ⟨#[]⟩, .string ⟨#[]⟩, .int .i64 0, .int .i64 0, .string ⟨#[]⟩, .slice none 0 0, .int .i64 0] 26) = x4 at hbx4 ho7 ⊢
       have HBx4 := Lib.hid (below_step HBx3.out hbx4)
       refine ⟨HC.out x4 HBx4.out, ?_⟩
       simp only [Act.put, List.setIfInBounds_toArray, List.set_cons_zero, List.set_cons_succ]
       refine wpAnyH_all (rs := [18]) (by kernel_rfl) (by simp) (fun jj hj => ?_)
       obtain rfl : jj = 18 := by simpa using hj
       have HSZS := Lib.hid (show w1.heap.size ≤ wd.heap.size ∧ wd.heap.size ≤ x2.heap.size ∧ wd.heap.size < x2.heap.size ∧ x2.heap.size ≤ x3.heap.size ∧ True ∧ x3.heap.size ≤ x4.heap.size ∧ x3.heap.size < x4.heap.size from ⟨HBwd.out.size, hbx2.size, ho8.lt, hbx3.size, trivial, hbx4.size, ho7.lt⟩)
       have hzz : Own7 x4 x3.heap.size zeroE := ho7
       refine wpOp_store7 rfl rfl _ _ rfl rfl (X := y) hzz rfl rfl ?_
       intro wf hzf hof
       have hbf : Below w1.heap.size w1 wf := HBx4.out.trans (hof.below HBx4.out.size (fun k e => by have e' : k = x3.heap.size := e; have := HSZS.out; omega))
       refine ⟨HC.out wf hbf, ?_⟩
       refine wpAnyH_all (rs := [19]) (by kernel_rfl) (by simp) (fun jj hj => ?_)
       obtain rfl : jj = 19 := by simpa using hj
       have hff : Own2F wf wd.heap.size 0 0 := Own2F.only ((ho8.keep hbx3).keep hbx4) hof (fun e => by have e' : wd.heap.size = x3.heap.size := e; have := HSZS.out; omega)
       refine wpOp_store2 rfl rfl _ _ rfl rfl (h := hh) (p := pp) hff rfl rfl ?_
       intro wg hzg hog
       have hbg : Below w1.heap.size w1 wg := hbf.trans (hog.below hbf.size (fun k e => by have e' : k = wd.heap.size := e; have := HSZS.out; omega))
       refine ⟨HC.out wg hbg, ?_⟩
       refine wpAnyH_done (by kernel_rfl) ?_ _
       have hsg : SeesEx wg y := (((hyl.keep (Alike.of_below hbx4)).keep (alike_only2 hof (fun b hb e => by have e' : b = x3.heap.size := e; have := hb.1; have := hb.2; have := HSZS.out; omega))).keep (alike_only2 hog (fun b hb e => by have e' : b = wd.heap.size := e; have := hb.1; have := hb.2; have := HSZS.out; omega))).see
       have hog7 := own7_only hzf hog (fun e => by have e' : x3.heap.size = wd.heap.size := e; have := HSZS.out; omega)
       have HFIN := Lib.hid (show CutSays R w1 (.pointer (some ⟨x3.heap.size, 0, none⟩)) (.pointer (some ⟨wd.heap.size, 0, none⟩)) wg from ⟨_, _, y, hh, pp, rfl, rfl, hog7, hzg, hsg, hbg, hcase⟩)
       clear hzz hzf hof hbf hff hzg hog hbg hsg hog7
       go_wp2_with fail
       go_meet
       exact HFIN.out
     · skip
       have hbx3 := belowNew' x2 (.cells #[.string ⟨#[]⟩, .string ⟨#[]⟩, .int .i64 0, .int .i64 0, .string ⟨#[]⟩, .slice none 0 0, .int .i64 0] 26)
       have ho7 : Own7 (World.alloc x2 (.cells #[.string ⟨#[]⟩, .string ⟨#[]⟩, .int .i64 0, .int .i64 0, .string ⟨#[]⟩, .slice none 0 0, .int .i64 0] 26)) x2.heap.size zeroE := own7_new x2 zeroE
       refine wpOp_valueD (d := some 7) rfl rfl (by rfl) (v := .pointer (some ⟨x2.heap.size, 0, none⟩)) (w' := World.alloc x2 (.cells #[.string ⟨#[]⟩, .string ⟨#[]⟩, .int .i64 0, .int .i64 0, .string ⟨#[]⟩, .slice none 0 0, .int .i64 0] 26)) (by go_simp) ?_
       generalize World.alloc x2 (.cells #[.string ⟨#[]⟩, .string ⟨#[]⟩, .int .i64 0, .int .i64 0, .string ⟨#[]⟩, .slice none 0 0, .int .i64 0] 26) = x3 at hbx3 ho7 ⊢
       have HBx3 := Lib.hid (below_step HBx2.out hbx3)
       refine ⟨HC.out x3 HBx3.out, ?_⟩
       simp only [Act.put, List.setIfInBounds_toArray, List.set_cons_zero, List.set_cons_succ]
       refine wpAnyH_all (rs := [12]) (by kernel_rfl) (by simp) (fun jj hj => ?_)
       obtain rfl : jj = 12 := by simpa using hj
       refine wpOp_returnsD (d := some 41) rfl rfl (by rfl) (f := 27) (args := #[.string tx]) (by go_simp) (HPAR.out x3 HBx3.out) ?_
       rintro e x4 ⟨y, hh, pp, rfl, hy, hbx4, hcase⟩
       have HBx4 := Lib.hid (below_step HBx3.out hbx4)
       have hyl := seesS_lt2 hy
       refine ⟨_, rfl, HC.out x4 HBx4.out, ?_⟩
       unfold exV faultV
       simp only [Act.put, List.setIfInBounds_toArray, List.set_cons_zero, List.set_cons_succ]
       refine takeH (i := 13) (d := some 28) (v := .tuple #[.agg #[.string y.op, .string y.name, .int .i64 y.val.type, .int .i64 y.val.n, .string y.val.s, .slice y.A y.args.length y.c, .int .i64 y.pos], .agg #[.int .i64 hh, .int .i64 pp]]) rfl rfl (by kernel_rfl) (by kernel_rfl) (by kernel_rfl) (fun _ _ _ h => h) (Or.inl ⟨by rfl, fun w' hS => by go_simp⟩) (HC.out x4 HBx4.out) ?_
       simp only [Act.put, List.setIfInBounds_toArray, List.set_cons_zero, List.set_cons_succ]
       refine takeH (i := 14) (d := some 42) (v := .agg #[.string y.op, .string y.name, .int .i64 y.val.type, .int .i64 y.val.n, .string y.val.s, .slice y.A y.args.length y.c, .int .i64 y.pos]) rfl rfl (by kernel_rfl) (by kernel_rfl) (by kernel_rfl) (fun _ _ _ h => h) (Or.inl ⟨by rfl, fun w' hS => by go_simp⟩) (HC.out x4 HBx4.out) ?_
       simp only [Act.put, List.setIfInBounds_toArray, List.set_cons_zero, List.set_cons_succ]
       refine takeH (i := 15) (d := some 43) (v := .agg #[.int .i64 hh, .int .i64 pp]) rfl rfl (by kernel_rfl) (by kernel_rfl) (by kernel_rfl) (fun _ _ _ h => h) (Or.inl ⟨by rfl, fun w' hS => by go_simp⟩) (HC.out x4 HBx4.out) ?_
       simp only [Act.put, List.setIfInBounds_toArray, List.set_cons_zero, List.set_cons_succ]
       refine wpAnyH_all (rs := [18]) (by kernel_rfl) (by simp) (fun jj hj => ?_)
       obtain rfl : jj = 18 := by simpa using hj
       have HSZS := Lib.hid (show w1.heap.size ≤ wd.heap.size ∧ wd.heap.size ≤ x2.heap.size ∧ wd.heap.size < x2.heap.size ∧ x2.heap.size ≤ x3.heap.size ∧ x2.heap.size < x3.heap.size ∧ x3.heap.size ≤ x4.heap.size ∧ True from ⟨HBwd.out.size, hbx2.size, ho8.lt, hbx3.size, ho7.lt, hbx4.size, trivial⟩)
       have hzz : Own7 x4 x2.heap.size zeroE := (ho7.keep hbx4)
       refine wpOp_store7 rfl rfl _ _ rfl rfl (X := y) hzz rfl rfl ?_
       intro wf hzf hof
       have hbf : Below w1.heap.size w1 wf := HBx4.out.trans (hof.below HBx4.out.size (fun k e => by have e' : k = x2.heap.size := e; have := HSZS.out; omega))
       refine ⟨HC.out wf hbf, ?_⟩
       refine wpAnyH_all (rs := [19]) (by kernel_rfl) (by simp) (fun jj hj => ?_)
       obtain rfl : jj = 19 := by simpa using hj
       have hff : Own2F wf wd.heap.size 0 0 := Own2F.only ((ho8.keep hbx3).keep hbx4) hof (fun e => by have e' : wd.heap.size = x2.heap.size := e; have := HSZS.out; omega)
       refine wpOp_store2 rfl rfl _ _ rfl rfl (h := hh) (p := pp) hff rfl rfl ?_
       intro wg hzg hog
       have hbg : Below w1.heap.size w1 wg := hbf.trans (hog.below hbf.size (fun k e => by have e' : k = wd.heap.size := e; have := HSZS.out; omega))
       refine ⟨HC.out wg hbg, ?_⟩
       refine wpAnyH_done (by kernel_rfl) ?_ _
       have hsg : SeesEx wg y := ((hyl.keep (alike_only2 hof (fun b hb e => by have e' : b = x2.heap.size := e; have := hb.1; have := hb.2; have := HSZS.out; omega))).keep (alike_only2 hog (fun b hb e => by have e' : b = wd.heap.size := e; have := hb.1; have := hb.2; have := HSZS.out; omega))).see
       have hog7 := own7_only hzf hog (fun e => by have e' : x2.heap.size = wd.heap.size := e; have := HSZS.out; omega)
       have HFIN := Lib.hid (show CutSays R w1 (.pointer (some ⟨x2.heap.size, 0, none⟩)) (.pointer (some ⟨wd.heap.size, 0, none⟩)) wg from ⟨_, _, y, hh, pp, rfl, rfl, hog7, hzg, hsg, hbg, hcase⟩)
       clear hzz hzf hof hbf hff hzg hog hbg hsg hog7
       go_wp2_with fail
       go_meet
       exact HFIN.out
  case rest =>
    obtain ⟨p7, p8, y, hh, pp, rfl, rfl, h7, h8, hy, hb, hcase⟩ := hcut
    have H7 := Lib.hid h7
    have H8 := Lib.hid h8
    have HY := Lib.hid hy
    have HB := Lib.hid hb
    have HBW := Lib.hid (show Below w.heap.size w wc from below_step HB1.out hb)
    obtain ⟨l0, l1⟩ := HL.out wc hb
    obtain ⟨q0, q1⟩ := h8.cells
    have hq := h8.lt
    obtain ⟨la, hla⟩ : ∃ la, lvB9 na = la := ⟨_, rfl⟩
    obtain ⟨lb, hlb⟩ : ∃ lb, lvB9 nb = lb := ⟨_, rfl⟩
    rw [hla] at l0
    rw [hlb] at l1
    rw [hla, hlb] at HL
    have HLA := Lib.hid hla
    have HLB := Lib.hid hlb
    have HBCS := Lib.hid (bind_cases HOK.out HR.out)
    rw [hla, hlb] at HBCS
    have hla9 : la ≤ 4 := by rw [← hla]; exact lv_le na
    have hlb9 : lb ≤ 4 := by rw [← hlb]; exact lv_le nb
    clear h7 h8 hy hb hla hlb HW0 HW1
    obtain ⟨s0, s1⟩ := HC.out wc HB.out
    rcases HBCS.out with ⟨h2a, h2b, hRe⟩ | ⟨hn2, x, z, hRx, hpz, hxz⟩
    · have g1 : ((la : Int) == 2) = true := by rw [h2a]; rfl
      have g2 : ((lb : Int) == 2) = true := by rw [h2b]; rfl
      obtain ⟨rfl, hpp⟩ : hh = 2 ∧ pp = 5 + (sa.size : Int) := by
        rcases hcase with ⟨x, h, -⟩ | h
        · rw [hRe] at h; cases h
        · rw [hRe] at h
          injection h with h
          injection h with h h'
          exact ⟨h.symm, by rw [← h', ← HSA.out]; rfl⟩
      have g3 : (pp == 5 + (sa.size : Int)) = true := beq_iff_eq.2 hpp
      have g4 : ((2 : Int) == 2) = true := rfl
      clear hpp hcase h2a h2b hRe
      go_wp2_with fail
      go_quiet (fail)
      have HBQ := Lib.hid (below_drewN HBW.out nq)
      generalize wc.drewN nq = wq at HBQ ⊢
      go_wp2_with fail
      go_ret
      exact ⟨rfl, HBQ.out⟩
    · obtain ⟨rfl, rfl, hst⟩ : hh = 0 ∧ pp = 0 ∧ strip y = x := by
        rcases hcase with ⟨x', h, h1, h2, h3⟩ | h
        · rw [hRx] at h; injection h with h; subst h; exact ⟨h1, h2, h3⟩
        · rw [hRx] at h; cases h
      have HST := Lib.hid hst
      have HPZ := Lib.hid hpz
      have HXZ := Lib.hid hxz
      have HN2 := Lib.hid hn2
      clear hst hpz hxz hn2 hcase hRx
      by_cases hlt : la < lb
      · have g5 : decide ((la : Int) < (lb : Int)) = true := decide_eq_true (by omega)
        have HTX2 := Lib.hid (show ((((⟨#[120, 32]⟩ ++ sa) ++ ⟨#[32, 40, 121, 32]⟩) ++ sb) ++ ⟨#[32, 122, 41]⟩ : ByteArray).data.toList = txtR na nb by rw [← HSA.out, ← HSB.out]; simp [txtR, mkB])
        rw [if_pos hlt] at HPZ
        have HPAR2 := Lib.hid (show ∀ wz, Below w1.heap.size w1 wz → Calls Tryz.prog 27 #[.string ((((⟨#[120, 32]⟩ ++ sa) ++ ⟨#[32, 40, 121, 32]⟩) ++ sb) ++ ⟨#[32, 122, 41]⟩)] wz (OneSays (.ok z) wz) from fun wz hb => parse_one _ (by rw [ByteArray.size_append, ByteArray.size_append, ByteArray.size_append, ByteArray.size_append]; have h1 : (⟨#[120, 32]⟩ : ByteArray).size = 2 := rfl; have h2 : (⟨#[32, 40, 121, 32]⟩ : ByteArray).size = 4 := rfl; have h3 : (⟨#[32, 122, 41]⟩ : ByteArray).size = 3 := rfl; omega) (by rw [HTX2.out]; exact HPZ.out) wz (HT1.out.keep hb))
        by_cases h2a : la = 2
        · have h2b : lb ≠ 2 := fun e => HN2.out ⟨h2a, e⟩
          have g1 : ((la : Int) == 2) = true := by rw [h2a]; rfl
          have g2 : ((lb : Int) == 2) = false := beq_eq_false_iff_ne.2 (by omega)
          clear h2a h2b
          have g6 : ((0 : Int) != 0) = false := rfl
          skip
          go_wp2_with fail
          go_quiet (fail)
          have hbq0 : Below wc.heap.size wc (wc.drewN nq) := below_drewN (Below.refl _ _) nq
          generalize wc.drewN nq = wq0 at hbq0 ⊢
          obtain ⟨s0, s1⟩ := HC.out wq0 (HB.out.trans (hbq0.mono HB.out.size))
          obtain ⟨l0, l1⟩ := HL.out wq0 (HB.out.trans (hbq0.mono HB.out.size))
          go_wp2_with fail
          go_quiet (fail)
          have hbq1 : Below wq0.heap.size wq0 (wq0.drewN nq) := below_drewN (Below.refl _ _) nq
          generalize wq0.drewN nq = wq1 at hbq1 ⊢
          obtain ⟨s0, s1⟩ := HC.out wq1 (HB.out.trans ((hbq0.trans (hbq1.mono hbq0.size)).mono HB.out.size))
          obtain ⟨l0, l1⟩ := HL.out wq1 (HB.out.trans ((hbq0.trans (hbq1.mono hbq0.size)).mono HB.out.size))
          go_wp2_with fail
          go_quiet (fail)
          have hbq2 : Below wq1.heap.size wq1 (wq1.drewN nq) := below_drewN (Below.refl _ _) nq
          generalize wq1.drewN nq = wq2 at hbq2 ⊢
          obtain ⟨s0, s1⟩ := HC.out wq2 (HB.out.trans (((hbq0.trans (hbq1.mono hbq0.size)).trans (hbq2.mono (hbq0.trans (hbq1.mono hbq0.size)).size)).mono HB.out.size))
          obtain ⟨l0, l1⟩ := HL.out wq2 (HB.out.trans (((hbq0.trans (hbq1.mono hbq0.size)).trans (hbq2.mono (hbq0.trans (hbq1.mono hbq0.size)).size)).mono HB.out.size))
          have HQC := Lib.hid ((hbq0.trans (hbq1.mono hbq0.size)).trans (hbq2.mono (hbq0.trans (hbq1.mono hbq0.size)).size))
          have HQ := Lib.hid (HQC.out.mono HB.out.size)
          clear hbq0 hbq1 hbq2
          generalize wq2 = wq at HQC HQ s0 s1 l0 l1 ⊢
          go_wp2_with fail
          refine (HPAR2.out wq (HB.out.trans HQ.out)).mono ?_
          rintro e wr ⟨y2, h2, p2, rfl, hy2, hb2, hcase2⟩
          obtain ⟨hz2, hst2⟩ : h2 = 0 ∧ strip y2 = z := by
            rcases hcase2 with ⟨x', h, h1, -, h3⟩ | h
            · injection h with h; subst h; exact ⟨h1, h3⟩
            · cases h
          have g7 : (h2 == 0) = true := beq_iff_eq.2 hz2
          obtain ⟨ws, hws, ho9, hb9, -⟩ := box_ex wr y2
          have ho9' := own7_new wr y2
          have hsz : ws.heap.size = wr.heap.size + 1 := by rw [← hws]; exact alloc_size _ _
          obtain ⟨wt0, hwt0⟩ : ∃ wt0, ws.alloc (.cells #[.int .i64 0, .int .i64 0] 34) = wt0 := ⟨_, rfl⟩
          have hb10 : Below ws.heap.size ws wt0 := by rw [← hwt0]; exact belowNew' _ _
          have ho100 : Own2F wt0 (wr.heap.size + 1) 0 0 := by rw [← hwt0, ← hsz]; exact own2f_new ws _ _
          obtain ⟨wt, hwt⟩ : ∃ wt, (wt0.setCell ⟨wr.heap.size + 1, 0, none⟩ (.int .i64 h2)).setCell ⟨wr.heap.size + 1, 1, none⟩ (.int .i64 p2) = wt := ⟨_, rfl⟩
          have ho10 : Own2F wt (wr.heap.size + 1) h2 p2 := by rw [← hwt]; exact own2f_set ho100 _ _
          have hn10 : Only (fun k => k = wr.heap.size + 1) wt0 wt := by rw [← hwt]; exact own2f_setOnly _ _
          have hb11 : Below ws.heap.size ws wt := hb10.trans (hn10.below hb10.size (fun k e => by have e' : k = wr.heap.size + 1 := e; omega))
          obtain ⟨z0, z1⟩ := ho100.cells
          obtain ⟨zf0, zf1⟩ := ho100.frees
          have zl := ho100.lt
          have HWT0 := Lib.hid hwt0
          have hb2t := below_step (below_step hb2 hb9) hb11
          have hbct := HQC.out.trans (hb2t.mono HQC.out.size)
          have h7t := (H7.out.keep hbct)
          have TL := Lib.hid (like_any _ y y2 (Nat.le_refl _) wt (HY.out.keep hbct) ((hy2.see.keep hb9).keep hb11))
          rw [show exSame y y2 = true by rw [← strip_same, HST.out, hst2]; exact HXZ.out] at TL
          have HBT := Lib.hid (show Below w.heap.size w wt from below_step HBW.out hbct)
          have ho9t := ho9.keep hb11
          obtain ⟨t0, t1, t2, t3, t4, t5, t6⟩ := h7t.cells
          obtain ⟨r0, r1, r2, r3, r4, r5, r6⟩ := ho9t.cells
          obtain ⟨v0, v1⟩ := ho10.cells
          have hl7 := h7t.lt
          have hl9 := ho9t.lt
          have hl10 := ho10.lt
          have HWS := Lib.hid hws
          have HWT := Lib.hid hwt
          unfold exV at TL
          clear hws hwt hwt0 hn10 hb11 ho100 hb2 hb9 hb10 ho9 ho9' ho10 hb2t hbct h7t hz2 hst2 hcase2 hy2 ho9t
          unfold exV faultV
          go_wp2_with (first | rw [HWS.out] | rw [HWT0.out] | rw [HWT.out])
          refine (TL.out).mono ?_
          rintro e wu ⟨rfl, hbu⟩
          have HBU := Lib.hid (below_step HBT.out hbu)
          clear hbu
          go_wp2_with fail
          go_ret
          exact ⟨rfl, HBU.out⟩
        · have g1 : ((la : Int) == 2) = false := beq_eq_false_iff_ne.2 (by omega)
          clear h2a
          have g6 : ((0 : Int) != 0) = false := rfl
          skip
          go_wp2_with fail
          go_quiet (fail)
          have hbq0 : Below wc.heap.size wc (wc.drewN nq) := below_drewN (Below.refl _ _) nq
          generalize wc.drewN nq = wq0 at hbq0 ⊢
          obtain ⟨s0, s1⟩ := HC.out wq0 (HB.out.trans (hbq0.mono HB.out.size))
          obtain ⟨l0, l1⟩ := HL.out wq0 (HB.out.trans (hbq0.mono HB.out.size))
          go_wp2_with fail
          go_quiet (fail)
          have hbq1 : Below wq0.heap.size wq0 (wq0.drewN nq) := below_drewN (Below.refl _ _) nq
          generalize wq0.drewN nq = wq1 at hbq1 ⊢
          obtain ⟨s0, s1⟩ := HC.out wq1 (HB.out.trans ((hbq0.trans (hbq1.mono hbq0.size)).mono HB.out.size))
          obtain ⟨l0, l1⟩ := HL.out wq1 (HB.out.trans ((hbq0.trans (hbq1.mono hbq0.size)).mono HB.out.size))
          go_wp2_with fail
          go_quiet (fail)
          have hbq2 : Below wq1.heap.size wq1 (wq1.drewN nq) := below_drewN (Below.refl _ _) nq
          generalize wq1.drewN nq = wq2 at hbq2 ⊢
          obtain ⟨s0, s1⟩ := HC.out wq2 (HB.out.trans (((hbq0.trans (hbq1.mono hbq0.size)).trans (hbq2.mono (hbq0.trans (hbq1.mono hbq0.size)).size)).mono HB.out.size))
          obtain ⟨l0, l1⟩ := HL.out wq2 (HB.out.trans (((hbq0.trans (hbq1.mono hbq0.size)).trans (hbq2.mono (hbq0.trans (hbq1.mono hbq0.size)).size)).mono HB.out.size))
          have HQC := Lib.hid ((hbq0.trans (hbq1.mono hbq0.size)).trans (hbq2.mono (hbq0.trans (hbq1.mono hbq0.size)).size))
          have HQ := Lib.hid (HQC.out.mono HB.out.size)
          clear hbq0 hbq1 hbq2
          generalize wq2 = wq at HQC HQ s0 s1 l0 l1 ⊢
          go_wp2_with fail
          refine (HPAR2.out wq (HB.out.trans HQ.out)).mono ?_
          rintro e wr ⟨y2, h2, p2, rfl, hy2, hb2, hcase2⟩
          obtain ⟨hz2, hst2⟩ : h2 = 0 ∧ strip y2 = z := by
            rcases hcase2 with ⟨x', h, h1, -, h3⟩ | h
            · injection h with h; subst h; exact ⟨h1, h3⟩
            · cases h
          have g7 : (h2 == 0) = true := beq_iff_eq.2 hz2
          obtain ⟨ws, hws, ho9, hb9, -⟩ := box_ex wr y2
          have ho9' := own7_new wr y2
          have hsz : ws.heap.size = wr.heap.size + 1 := by rw [← hws]; exact alloc_size _ _
          obtain ⟨wt0, hwt0⟩ : ∃ wt0, ws.alloc (.cells #[.int .i64 0, .int .i64 0] 34) = wt0 := ⟨_, rfl⟩
          have hb10 : Below ws.heap.size ws wt0 := by rw [← hwt0]; exact belowNew' _ _
          have ho100 : Own2F wt0 (wr.heap.size + 1) 0 0 := by rw [← hwt0, ← hsz]; exact own2f_new ws _ _
          obtain ⟨wt, hwt⟩ : ∃ wt, (wt0.setCell ⟨wr.heap.size + 1, 0, none⟩ (.int .i64 h2)).setCell ⟨wr.heap.size + 1, 1, none⟩ (.int .i64 p2) = wt := ⟨_, rfl⟩
          have ho10 : Own2F wt (wr.heap.size + 1) h2 p2 := by rw [← hwt]; exact own2f_set ho100 _ _
          have hn10 : Only (fun k => k = wr.heap.size + 1) wt0 wt := by rw [← hwt]; exact own2f_setOnly _ _
          have hb11 : Below ws.heap.size ws wt := hb10.trans (hn10.below hb10.size (fun k e => by have e' : k = wr.heap.size + 1 := e; omega))
          obtain ⟨z0, z1⟩ := ho100.cells
          obtain ⟨zf0, zf1⟩ := ho100.frees
          have zl := ho100.lt
          have HWT0 := Lib.hid hwt0
          have hb2t := below_step (below_step hb2 hb9) hb11
          have hbct := HQC.out.trans (hb2t.mono HQC.out.size)
          have h7t := (H7.out.keep hbct)
          have TL := Lib.hid (like_any _ y y2 (Nat.le_refl _) wt (HY.out.keep hbct) ((hy2.see.keep hb9).keep hb11))
          rw [show exSame y y2 = true by rw [← strip_same, HST.out, hst2]; exact HXZ.out] at TL
          have HBT := Lib.hid (show Below w.heap.size w wt from below_step HBW.out hbct)
          have ho9t := ho9.keep hb11
          obtain ⟨t0, t1, t2, t3, t4, t5, t6⟩ := h7t.cells
          obtain ⟨r0, r1, r2, r3, r4, r5, r6⟩ := ho9t.cells
          obtain ⟨v0, v1⟩ := ho10.cells
          have hl7 := h7t.lt
          have hl9 := ho9t.lt
          have hl10 := ho10.lt
          have HWS := Lib.hid hws
          have HWT := Lib.hid hwt
          unfold exV at TL
          clear hws hwt hwt0 hn10 hb11 ho100 hb2 hb9 hb10 ho9 ho9' ho10 hb2t hbct h7t hz2 hst2 hcase2 hy2 ho9t
          unfold exV faultV
          go_wp2_with (first | rw [HWS.out] | rw [HWT0.out] | rw [HWT.out])
          refine (TL.out).mono ?_
          rintro e wu ⟨rfl, hbu⟩
          have HBU := Lib.hid (below_step HBT.out hbu)
          clear hbu
          go_wp2_with fail
          go_ret
          exact ⟨rfl, HBU.out⟩
      · have g5 : decide ((la : Int) < (lb : Int)) = false := decide_eq_false (by omega)
        have HTX2 := Lib.hid (show ((((⟨#[40, 120, 32]⟩ ++ sa) ++ ⟨#[32, 121, 41, 32]⟩) ++ sb) ++ ⟨#[32, 122]⟩ : ByteArray).data.toList = txtL na nb by rw [← HSA.out, ← HSB.out]; simp [txtL, mkB])
        rw [if_neg hlt] at HPZ
        have HPAR2 := Lib.hid (show ∀ wz, Below w1.heap.size w1 wz → Calls Tryz.prog 27 #[.string ((((⟨#[40, 120, 32]⟩ ++ sa) ++ ⟨#[32, 121, 41, 32]⟩) ++ sb) ++ ⟨#[32, 122]⟩)] wz (OneSays (.ok z) wz) from fun wz hb => parse_one _ (by rw [ByteArray.size_append, ByteArray.size_append, ByteArray.size_append, ByteArray.size_append]; have h1 : (⟨#[40, 120, 32]⟩ : ByteArray).size = 3 := rfl; have h2 : (⟨#[32, 121, 41, 32]⟩ : ByteArray).size = 4 := rfl; have h3 : (⟨#[32, 122]⟩ : ByteArray).size = 2 := rfl; omega) (by rw [HTX2.out]; exact HPZ.out) wz (HT1.out.keep hb))
        by_cases h2a : la = 2
        · have h2b : lb ≠ 2 := fun e => HN2.out ⟨h2a, e⟩
          have g1 : ((la : Int) == 2) = true := by rw [h2a]; rfl
          have g2 : ((lb : Int) == 2) = false := beq_eq_false_iff_ne.2 (by omega)
          clear h2a h2b
          have g6 : ((0 : Int) != 0) = false := rfl
          skip
          go_wp2_with fail
          go_quiet (fail)
          have hbq0 : Below wc.heap.size wc (wc.drewN nq) := below_drewN (Below.refl _ _) nq
          generalize wc.drewN nq = wq0 at hbq0 ⊢
          obtain ⟨s0, s1⟩ := HC.out wq0 (HB.out.trans (hbq0.mono HB.out.size))
          obtain ⟨l0, l1⟩ := HL.out wq0 (HB.out.trans (hbq0.mono HB.out.size))
          go_wp2_with fail
          go_quiet (fail)
          have hbq1 : Below wq0.heap.size wq0 (wq0.drewN nq) := below_drewN (Below.refl _ _) nq
          generalize wq0.drewN nq = wq1 at hbq1 ⊢
          obtain ⟨s0, s1⟩ := HC.out wq1 (HB.out.trans ((hbq0.trans (hbq1.mono hbq0.size)).mono HB.out.size))
          obtain ⟨l0, l1⟩ := HL.out wq1 (HB.out.trans ((hbq0.trans (hbq1.mono hbq0.size)).mono HB.out.size))
          have HQC := Lib.hid (hbq0.trans (hbq1.mono hbq0.size))
          have HQ := Lib.hid (HQC.out.mono HB.out.size)
          clear hbq0 hbq1
          generalize wq1 = wq at HQC HQ s0 s1 l0 l1 ⊢
          go_wp2_with fail
          refine (HPAR2.out wq (HB.out.trans HQ.out)).mono ?_
          rintro e wr ⟨y2, h2, p2, rfl, hy2, hb2, hcase2⟩
          obtain ⟨hz2, hst2⟩ : h2 = 0 ∧ strip y2 = z := by
            rcases hcase2 with ⟨x', h, h1, -, h3⟩ | h
            · injection h with h; subst h; exact ⟨h1, h3⟩
            · cases h
          have g7 : (h2 == 0) = true := beq_iff_eq.2 hz2
          obtain ⟨ws, hws, ho9, hb9, -⟩ := box_ex wr y2
          have ho9' := own7_new wr y2
          have hsz : ws.heap.size = wr.heap.size + 1 := by rw [← hws]; exact alloc_size _ _
          obtain ⟨wt0, hwt0⟩ : ∃ wt0, ws.alloc (.cells #[.int .i64 0, .int .i64 0] 34) = wt0 := ⟨_, rfl⟩
          have hb10 : Below ws.heap.size ws wt0 := by rw [← hwt0]; exact belowNew' _ _
          have ho100 : Own2F wt0 (wr.heap.size + 1) 0 0 := by rw [← hwt0, ← hsz]; exact own2f_new ws _ _
          obtain ⟨wt, hwt⟩ : ∃ wt, (wt0.setCell ⟨wr.heap.size + 1, 0, none⟩ (.int .i64 h2)).setCell ⟨wr.heap.size + 1, 1, none⟩ (.int .i64 p2) = wt := ⟨_, rfl⟩
          have ho10 : Own2F wt (wr.heap.size + 1) h2 p2 := by rw [← hwt]; exact own2f_set ho100 _ _
          have hn10 : Only (fun k => k = wr.heap.size + 1) wt0 wt := by rw [← hwt]; exact own2f_setOnly _ _
          have hb11 : Below ws.heap.size ws wt := hb10.trans (hn10.below hb10.size (fun k e => by have e' : k = wr.heap.size + 1 := e; omega))
          obtain ⟨z0, z1⟩ := ho100.cells
          obtain ⟨zf0, zf1⟩ := ho100.frees
          have zl := ho100.lt
          have HWT0 := Lib.hid hwt0
          have hb2t := below_step (below_step hb2 hb9) hb11
          have hbct := HQC.out.trans (hb2t.mono HQC.out.size)
          have h7t := (H7.out.keep hbct)
          have TL := Lib.hid (like_any _ y y2 (Nat.le_refl _) wt (HY.out.keep hbct) ((hy2.see.keep hb9).keep hb11))
          rw [show exSame y y2 = true by rw [← strip_same, HST.out, hst2]; exact HXZ.out] at TL
          have HBT := Lib.hid (show Below w.heap.size w wt from below_step HBW.out hbct)
          have ho9t := ho9.keep hb11
          obtain ⟨t0, t1, t2, t3, t4, t5, t6⟩ := h7t.cells
          obtain ⟨r0, r1, r2, r3, r4, r5, r6⟩ := ho9t.cells
          obtain ⟨v0, v1⟩ := ho10.cells
          have hl7 := h7t.lt
          have hl9 := ho9t.lt
          have hl10 := ho10.lt
          have HWS := Lib.hid hws
          have HWT := Lib.hid hwt
          unfold exV at TL
          clear hws hwt hwt0 hn10 hb11 ho100 hb2 hb9 hb10 ho9 ho9' ho10 hb2t hbct h7t hz2 hst2 hcase2 hy2 ho9t
          unfold exV faultV
          go_wp2_with (first | rw [HWS.out] | rw [HWT0.out] | rw [HWT.out])
          refine (TL.out).mono ?_
          rintro e wu ⟨rfl, hbu⟩
          have HBU := Lib.hid (below_step HBT.out hbu)
          clear hbu
          go_wp2_with fail
          go_ret
          exact ⟨rfl, HBU.out⟩
        · have g1 : ((la : Int) == 2) = false := beq_eq_false_iff_ne.2 (by omega)
          clear h2a
          have g6 : ((0 : Int) != 0) = false := rfl
          skip
          go_wp2_with fail
          go_quiet (fail)
          have hbq0 : Below wc.heap.size wc (wc.drewN nq) := below_drewN (Below.refl _ _) nq
          generalize wc.drewN nq = wq0 at hbq0 ⊢
          obtain ⟨s0, s1⟩ := HC.out wq0 (HB.out.trans (hbq0.mono HB.out.size))
          obtain ⟨l0, l1⟩ := HL.out wq0 (HB.out.trans (hbq0.mono HB.out.size))
          go_wp2_with fail
          go_quiet (fail)
          have hbq1 : Below wq0.heap.size wq0 (wq0.drewN nq) := below_drewN (Below.refl _ _) nq
          generalize wq0.drewN nq = wq1 at hbq1 ⊢
          obtain ⟨s0, s1⟩ := HC.out wq1 (HB.out.trans ((hbq0.trans (hbq1.mono hbq0.size)).mono HB.out.size))
          obtain ⟨l0, l1⟩ := HL.out wq1 (HB.out.trans ((hbq0.trans (hbq1.mono hbq0.size)).mono HB.out.size))
          have HQC := Lib.hid (hbq0.trans (hbq1.mono hbq0.size))
          have HQ := Lib.hid (HQC.out.mono HB.out.size)
          clear hbq0 hbq1
          generalize wq1 = wq at HQC HQ s0 s1 l0 l1 ⊢
          go_wp2_with fail
          refine (HPAR2.out wq (HB.out.trans HQ.out)).mono ?_
          rintro e wr ⟨y2, h2, p2, rfl, hy2, hb2, hcase2⟩
          obtain ⟨hz2, hst2⟩ : h2 = 0 ∧ strip y2 = z := by
            rcases hcase2 with ⟨x', h, h1, -, h3⟩ | h
            · injection h with h; subst h; exact ⟨h1, h3⟩
            · cases h
          have g7 : (h2 == 0) = true := beq_iff_eq.2 hz2
          obtain ⟨ws, hws, ho9, hb9, -⟩ := box_ex wr y2
          have ho9' := own7_new wr y2
          have hsz : ws.heap.size = wr.heap.size + 1 := by rw [← hws]; exact alloc_size _ _
          obtain ⟨wt0, hwt0⟩ : ∃ wt0, ws.alloc (.cells #[.int .i64 0, .int .i64 0] 34) = wt0 := ⟨_, rfl⟩
          have hb10 : Below ws.heap.size ws wt0 := by rw [← hwt0]; exact belowNew' _ _
          have ho100 : Own2F wt0 (wr.heap.size + 1) 0 0 := by rw [← hwt0, ← hsz]; exact own2f_new ws _ _
          obtain ⟨wt, hwt⟩ : ∃ wt, (wt0.setCell ⟨wr.heap.size + 1, 0, none⟩ (.int .i64 h2)).setCell ⟨wr.heap.size + 1, 1, none⟩ (.int .i64 p2) = wt := ⟨_, rfl⟩
          have ho10 : Own2F wt (wr.heap.size + 1) h2 p2 := by rw [← hwt]; exact own2f_set ho100 _ _
          have hn10 : Only (fun k => k = wr.heap.size + 1) wt0 wt := by rw [← hwt]; exact own2f_setOnly _ _
          have hb11 : Below ws.heap.size ws wt := hb10.trans (hn10.below hb10.size (fun k e => by have e' : k = wr.heap.size + 1 := e; omega))
          obtain ⟨z0, z1⟩ := ho100.cells
          obtain ⟨zf0, zf1⟩ := ho100.frees
          have zl := ho100.lt
          have HWT0 := Lib.hid hwt0
          have hb2t := below_step (below_step hb2 hb9) hb11
          have hbct := HQC.out.trans (hb2t.mono HQC.out.size)
          have h7t := (H7.out.keep hbct)
          have TL := Lib.hid (like_any _ y y2 (Nat.le_refl _) wt (HY.out.keep hbct) ((hy2.see.keep hb9).keep hb11))
          rw [show exSame y y2 = true by rw [← strip_same, HST.out, hst2]; exact HXZ.out] at TL
          have HBT := Lib.hid (show Below w.heap.size w wt from below_step HBW.out hbct)
          have ho9t := ho9.keep hb11
          obtain ⟨t0, t1, t2, t3, t4, t5, t6⟩ := h7t.cells
          obtain ⟨r0, r1, r2, r3, r4, r5, r6⟩ := ho9t.cells
          obtain ⟨v0, v1⟩ := ho10.cells
          have hl7 := h7t.lt
          have hl9 := ho9t.lt
          have hl10 := ho10.lt
          have HWS := Lib.hid hws
          have HWT := Lib.hid hwt
          unfold exV at TL
          clear hws hwt hwt0 hn10 hb11 ho100 hb2 hb9 hb10 ho9 ho9' ho10 hb2t hbct h7t hz2 hst2 hcase2 hy2 ho9t
          unfold exV faultV
          go_wp2_with (first | rw [HWS.out] | rw [HWT0.out] | rw [HWT.out])
          refine (TL.out).mono ?_
          rintro e wu ⟨rfl, hbu⟩
          have HBU := Lib.hid (below_step HBT.out hbu)
          clear hbu
          go_wp2_with fail
          go_ret
          exact ⟨rfl, HBU.out⟩
/-- The world of the witness: the door's, the row's tables laid over it. -/
noncomputable def theWorld (os : Os) : World := (World.doorLaid Tryz.prog 4000 os).layVars Tryz.prog (Rows.treeBindsRow.laid.filter fun x => x.2.handleName?.isNone)

set_option maxRecDepth 100000 in
theorem contract (H : Type) (enc : TypeId × Value → H) (W : World) (base : Nat) (args : Array Value) (ds gs : List (DataW H)) (before : List MemPlace)
    (hval : ∀ (j : Nat) t v, Tryz.f6.params[j]? = some t → args[j]? = some v → Value.okWide Tryz.prog W .any base t v)
    (hW : DataW.Whole enc Tryz.prog Tryz.f6.params.toList Rows.treeBindsSpec.vars false W args.toList ds gs before)
    (hsz : (DataW.weightsEach Tryz.prog (Tryz.f6.params.toList ++ (OpenSpec.ofChange Rows.treeBindsSpec).bare.plain.varTypes Tryz.prog) (ds ++ gs)).all (· ≤ reachBytes) = true) (hL : laidMetH Tryz.prog Rows.treeBindsRow.laid W) (hsh : W.ShapedOpen Tryz.prog) :
    Calls Tryz.prog 6 args W fun e W' => ∃ v, e = .returned v ∧ Rows.treeBindsSpec.post enc Tryz.prog Tryz.f6 false true false false W args v W' := by
  have hW' := hW
  obtain ⟨p, q, hA0, hV, rfl, hfz, hnd⟩ := hW
  have hA : DataW.TrodAll enc Tryz.prog W 0 (fun _ => true) true Tryz.f6.params.toList args.toList ds p := hA0
  rw [Tryz.params6] at hA hval
  obtain ⟨v0, vs0, d0, ds0, p0, q0, hargs, rfl, rfl, h0, r0⟩ := trodAll_cons hA
  obtain ⟨v1, vs1, d1, ds1, p1, q1, rfl, rfl, rfl, h1, r1⟩ := trodAll_cons r0
  obtain ⟨rfl, rfl, rfl⟩ := trodAll_nil r1
  obtain rfl : args = #[v0, v1] := by cases args; simp_all
  obtain ⟨rfl, rfl⟩ := trodVars_none hV
  obtain ⟨a0, rfl, rfl, rfl, w0⟩ := open_int Tryz.underlying3 (hval 0 3 v0 rfl rfl) h0
  obtain ⟨a1, rfl, rfl, rfl, w1⟩ := open_int Tryz.underlying3 (hval 1 3 v1 rfl rfl) h1
  have hL0 : laidMet Tryz.prog [("math/bits.deBruijn32tab", Rows.laid_math_bits_deBruijn32tab), ("math/bits.deBruijn64tab", Rows.laid_math_bits_deBruijn64tab), ("internal/strconv.uint64pow10", Rows.laid_internal_strconv_uint64pow10), ("unicode/utf8.acceptRanges", Rows.laid_unicode_utf8_acceptRanges), ("strconv.ErrRange", Rows.laid_strconv_ErrRange), ("strconv.ErrSyntax", Rows.laid_strconv_ErrSyntax), ("sluicebook/lex.signs", Rows.laid_sluicebook_lex_signs), ("sluicebook/tree.words", Rows.laid_sluicebook_tree_words), ("sluicebook/tree.levels", Rows.laid_sluicebook_tree_levels), ("unicode/utf8.first", Rows.laid_unicode_utf8_first)] W := hL
  refine (walk a0 a1 W ⟨(levelsT_of hL0 (.tail _ (.tail _ (.tail _ (.tail _ (.tail _ (.tail _ (.tail _ (.tail _ (.head _)))))))))), (wordsT_of hL0 (.tail _ (.tail _ (.tail _ (.tail _ (.tail _ (.tail _ (.tail _ (.head _))))))))), (textT_of hL0 (.tail _ (.tail _ (.head _))) hsh), (numT_of hL0.tail.tail.tail.tail), (signsT_of hL0 (.tail _ (.tail _ (.tail _ (.tail _ (.tail _ (.tail _ (.head _))))))))⟩).mono fun e W' ⟨he, hb⟩ => ?_
  subst he
  exact ⟨_, rfl, law_post laidOut Tryz.underlying4 (by kernel_rfl) rfl (by rw [Tryz.params6]; intro t ht; simp only [List.mem_cons, List.not_mem_nil, or_false] at ht; rcases ht with rfl | rfl; all_goals exact ⟨by kernel_rfl, of_decide_eq_true (by kernel_rfl)⟩) hW' rfl hb⟩

theorem reads (os : Os) {H : Type} (enc : TypeId × Value → H) : ∃ places, DataW.whole enc Tryz.prog ((theWorld os).forCall (fun _ _ => 0) ⟨#[], #[.int .i64 0, .int .i64 0], []⟩).memory Tryz.f6.params.toList Rows.treeBindsSpec.vars false (#[.int .i64 0, .int .i64 0] : Array Value).toList 8 = some ([.lit (.int .i64 0), .lit (.int .i64 0)], [], places) :=
  ⟨[], by kernel_rfl⟩

set_option maxRecDepth 100000 in
theorem lifted (os : Os) (started : os.Started) (H : Type) (enc : TypeId × Value → H) (F : Stop.Interp) :
    ReturnsInHanded {} Tryz.checked os 6 .any ((OpenSpec.ofChange Rows.treeBindsSpec).preRow enc Tryz.prog Tryz.f6 Rows.treeBindsRow.domain false Rows.treeBindsRow.laid) (((OpenSpec.ofChange Rows.treeBindsSpec).at F).post enc Tryz.prog Tryz.f6 false true false false) := by
  obtain ⟨places, hx⟩ := reads os enc
  refine returnsInHanded_of_row (C := Tryz.checked) (s := OpenSpec.ofChange Rows.treeBindsSpec) own started (by kernel_rfl) Tryz.func6
    (witness_row_atRef (enc := enc) (C := Tryz.checked) false (theWorld os) #[.int .i64 0, .int .i64 0] (World.layVars_os _ _ _) (by kernel_rfl) (by kernel_rfl) (by kernel_rfl)
      (OpenSpec.preRow_of_cond 8 hx (by kernel_rfl) (fun k hk => by cases hk) (by kernel_rfl) (laidMetH_of_parts (laidMet_over (w0 := World.doorLaid Tryz.prog 4000 os) rfl (by kernel_rfl) (by kernel_rfl)) (by kernel_rfl)))) ?_
  intro W base args ds gs before hval hW _ _ hsz hL hsh _
  exact contract H enc W base args ds gs before hval hW hsz hL hsh

theorem said : Rows.TreeBindsSaid :=
  OpenClaim.holds_of_cond 6 Tryz.f6 rfl rfl rfl rfl rfl rfl rfl ⟨rfl, rfl, rfl, rfl, rfl⟩ rfl rfl rfl rfl rfl (by kernel_rfl) Tryz.func6 (by kernel_rfl)
    (of_decide_eq_true (by kernel_rfl)) (by unfold Func.isWrapper; first | (rw [if_pos (by decide +kernel)]; kernel_rfl) | (rw [if_neg (by decide +kernel)]; exact ⟨rfl, rfl⟩))
    (fun os started H enc _ F => by rw [OpenClaim.pre_eq_preRow]; exact lifted os started H enc F)

theorem plain (f : FuncId) (fn : Func) (hf : Tryz.pinned.checked.prog.funcNamed "sluicebook/sluicelaw4.TreeBinds" = some f) (hfn : Tryz.pinned.checked.prog.funcs[f]? = some fn) :
    true = Tryz.pinned.checked.prog.looks [] ∧ ∀ (j : Nat) t, fn.params[j]? = some t → Tryz.pinned.checked.prog.wantsStandIn t = false := by
  obtain rfl : f = 6 := Option.some.inj ((show Tryz.prog.funcNamed "sluicebook/sluicelaw4.TreeBinds" = some 6 by kernel_rfl).symm.trans hf) |>.symm
  obtain rfl : fn = Tryz.f6 := (Option.some.inj (Tryz.func6.symm.trans hfn)).symm
  refine ⟨by kernel_rfl, fun j t ht => ?_⟩
  rw [Tryz.params6] at ht
  have hm := Array.mem_of_getElem? ht
  simp only [List.mem_toArray, List.mem_cons, List.not_mem_nil, or_false] at hm
  rcases hm with rfl | rfl
  · exact (show Tryz.prog.wantsStandIn 3 = false by kernel_rfl)
  · exact (show Tryz.prog.wantsStandIn 3 = false by kernel_rfl)

theorem card : Rows.TreeBindsCardSaid :=
  Claim7.holds_tied_plain_at .later [] _ _ _ _ said (fun _ h => by cases h) (by kernel_rfl) (fun _ h => by cases h) treeBinds_row_tie rfl ⟨rfl, rfl⟩ (by kernel_rfl) rfl plain (by kernel_rfl)
#print axioms card
end Go.Proofs.YtpbbkpfaphjdoaaGreatDoor.treeBinds
