/- A region in any order: an operation that only reads may be taken first, where what it reads is held till one comes up that waits for it (number d). No program in sight. -/
import Derived.Test.YtpbbkpfaphjdoabGreatDoorSRdGo
namespace Go.Proofs.YtpbbkpfaphjdoabGreatDoor
open Go
theorem aS {α : Type} (l : List α) (i : Nat) (a : α) : l.toArray.setIfInBounds i a = (l.set i a).toArray := List.setIfInBounds_toArray ..
theorem aZ {α : Type} (x a : α) (l : List α) : (x :: l).set 0 a = a :: l := List.set_cons_zero ..
theorem aC {α : Type} (x a : α) (l : List α) (n : Nat) : (x :: l).set (n + 1) a = x :: l.set n a := List.set_cons_succ ..
section
variable {P : Program} {md : Region.Mode} {ops : Array Oper} {Q : Exit → Act → World → Prop} {C : World → Prop} {d : Nat}
def wpAnyD (P : Program) (md : Region.Mode) (ops : Array Oper) (Q : Exit → Act → World → Prop) (C : World → Prop) (d : Nat) : Nat → Array Bool → Act → World → Prop
 | 0, listed, a, w => Region.ready md ops listed = [] ∧ Q .normal a w
 | fuel + 1, listed, a, w =>
  (Region.ready md ops listed = [] → Q .normal a w) ∧
  ∀ i ∈ Region.ready md ops listed, wpOp P ops Q i (fun a' w' => ((listed.setIfInBounds i true).getD d true = true ∨ C w') ∧ wpAnyD P md ops Q C d fuel (listed.setIfInBounds i true) a' w') a w
theorem wpAny_of_D : ∀ (fuel : Nat) (listed : Array Bool) (a : Act) (w : World), wpAnyD P md ops Q C d fuel listed a w → wpAny P md ops Q fuel listed a w
 | 0, _, _, _, h => h
 | fuel + 1, _, _, _, h => ⟨h.1, fun i hi => wpOp_mono (fun a' w' h' => wpAny_of_D fuel _ a' w' h'.2) (h.2 i hi)⟩
theorem firstD {i : Nat} {oi : Oper} {v : Value} (hi : ops[i]? = some oi) (hsel : ∀ (j : Nat) (o : Oper) cs b, ops[j]? = some o → o.op ≠ .select cs b)
  (hQ : ∀ c a w, Q (.panic c) (a.put oi.dst v) w → Q (.panic c) a w) (hid : i ≠ d) (Y : World → Prop)
  (hY : (∀ w, Y w) ∨ ((∀ w, C w → Y w) ∧ ∃ od, ops[d]? = some od ∧ ∃ e ∈ od.after, Region.binds md e = true ∧ e.on = i)) :
  ∀ (fuel : Nat) (listed : Array Bool) (a : Act) (w : World),
   (∀ j oj, ops[j]? = some oj → j ≠ i → listed.getD j true = false → (∀ e ∈ oj.after, Region.binds md e = true → e.on ≠ i) → oi.apart ops oj = true) →
   i ∈ Region.ready md ops listed → YieldsIf P ops Y oi v a → ((∀ w, Y w) ∨ listed.getD d true = false) → (listed.getD d true = true ∨ C w) →
   wpAnyD P md ops Q C d fuel (listed.setIfInBounds i true) (a.put oi.dst v) w → wpAnyD P md ops Q C d (fuel + 1) listed a w := by
 have yes : ∀ (listed : Array Bool) (w : World), ((∀ w, Y w) ∨ listed.getD d true = false) → (listed.getD d true = true ∨ C w) → Y w := fun listed w h1 h2 => by
  rcases h1 with h1 | h1
  ·exact h1 w
  ·rcases h2 with h2 | h2
   ·rw [h1] at h2; cases h2
   ·rcases hY with h | ⟨h, -⟩
    ·exact h w
    ·exact h w h2
 have keep : ∀ (listed : Array Bool) (j : Nat), j ≠ d → (listed.setIfInBounds j true).getD d true = listed.getD d true := fun listed j h => getD_set_ne true h
 intro fuel
 induction fuel with
 | zero =>
  intro listed a w _ hr hy hd hS H
  refine ⟨fun h => (by rw [h] at hr; cases hr), fun j hj => ?_⟩
  by_cases hji : j = i
  ·subst hji; exact hy.wpOp hi (yes _ _ hd hS) ⟨by rw [keep _ _ hid]; exact hS, H⟩
  ·have := ready_mono hj hji
   rw [H.1] at this
   cases this
 | succ fuel ih =>
  intro listed a w hfree hr hy hd hS H
  refine ⟨fun h => (by rw [h] at hr; cases hr), fun j hj => ?_⟩
  by_cases hji : j = i
  ·subst hji; exact hy.wpOp hi (yes _ _ hd hS) ⟨by rw [keep _ _ hid]; exact hS, H⟩
  ·have h1 := H.2 j (ready_mono hj hji)
   obtain ⟨hjun, oj, hoj, hall⟩ := mem_ready.1 hj
   have hnot : ∀ e ∈ oj.after, Region.binds md e = true → e.on ≠ i := fun e he hb heq => by
    have h1 := hall e he hb
    have h0 := (mem_ready.1 hr).1
    rw [heq] at h1
    rcases Nat.lt_or_ge i listed.size with h' | h'
    ·simp [h'] at h0 h1; rw [h0] at h1; cases h1
    ·simp [Array.getElem?_eq_none h'] at h1
   have h2 := wpOp_putIf hoj (hfree j oj hoj hji hjun hnot) (fun cs b => hsel i oi cs b hi) (fun cs b => hsel j oj cs b hoj) hQ hy h1
   have hfree' : ∀ k ok, ops[k]? = some ok → k ≠ i → (listed.setIfInBounds j true).getD k true = false →
     (∀ e ∈ ok.after, Region.binds md e = true → e.on ≠ i) → oi.apart ops ok = true := fun k ok hk hki hun hno => by
    refine hfree k ok hk hki ?_ hno
    by_cases hjk : j = k
    ·subst hjk; exact hjun
    ·rw [getD_set_ne true hjk] at hun; exact hun
   refine wpOp_mono (fun a' w' h3 => ?_) h2
   have hc : (listed.setIfInBounds j true).getD d true = true ∨ C w' := by
    rcases h3.2.1 with h | h
    ·rw [Array.setIfInBounds_comm _ _ (Ne.symm hji), keep _ _ hid] at h; exact Or.inl h
    ·exact Or.inr h
   have hd' : (∀ w, Y w) ∨ (listed.setIfInBounds j true).getD d true = false := by
    rcases hY with h | ⟨-, od, hod, e, he, hb, heq⟩
    ·exact Or.inl h
    ·rcases hd with h | h
     ·exact Or.inl h
     ·refine Or.inr ?_
      have hjd : j ≠ d := fun hjd => by
       subst hjd
       rw [hoj] at hod
       injection hod with hod
       subst hod
       exact hnot e he hb heq
      rw [keep _ _ hjd]; exact h
   refine ⟨hc, ih (listed.setIfInBounds j true) a' w' hfree' (ready_mono hr (Ne.symm hji)) h3.1 hd' hc ?_⟩
   rw [Array.setIfInBounds_comm _ _ hji]
   exact h3.2.2
theorem takeD {i : Nat} {oi : Oper} {dst : Option Tmp} {v : Value} {fuel : Nat} {listed : Array Bool} {a : Act} {w : World} (hi : ops[i]? = some oi) (hd : oi.dst = dst)
  (hs : Region.noSelect ops = true) (hf : Region.free md ops listed i = true) (hr : (Region.ready md ops listed).contains i = true)
  (hQ : ∀ c a w, Q (.panic c) (a.put dst v) w → Q (.panic c) a w) (hid : i ≠ d) (hw : (match ops[d]? with | some od => od.after.any (fun e => Region.binds md e && e.on == i) | none => false) = true) (hl : listed.getD d true = false) (hy : YieldsIf P ops C oi v a) (hS : C w)
  (h : wpAnyD P md ops Q C d fuel (listed.setIfInBounds i true) (a.put dst v) w) : wpAnyD P md ops Q C d (fuel + 1) listed a w := by
 subst hd
 refine firstD hi (Region.noSelect_spec hs) hQ hid C (Or.inr ⟨fun _ h => h, ?_⟩) fuel listed a w (Region.free_spec hi hf) (by simpa using hr) hy (Or.inr hl) (Or.inr hS) h
 cases ho : ops[d]? with
 | none => rw [ho] at hw; cases hw
 | some od =>
  rw [ho] at hw
  obtain ⟨k, hk, h2⟩ := Array.any_eq_true.1 hw
  simp only [Bool.and_eq_true, beq_iff_eq] at h2
  exact ⟨od, rfl, _, Array.getElem_mem hk, h2.1, h2.2⟩
theorem takeP {i : Nat} {oi : Oper} {dst : Option Tmp} {v : Value} {fuel : Nat} {listed : Array Bool} {a : Act} {w : World} (hi : ops[i]? = some oi) (hd : oi.dst = dst)
  (hs : Region.noSelect ops = true) (hf : Region.free md ops listed i = true) (hr : (Region.ready md ops listed).contains i = true)
  (hQ : ∀ c a w, Q (.panic c) (a.put dst v) w → Q (.panic c) a w) (hid : i ≠ d) (hy : YieldsIf P ops (fun _ => True) oi v a) (hS : listed.getD d true = true ∨ C w)
  (h : wpAnyD P md ops Q C d fuel (listed.setIfInBounds i true) (a.put dst v) w) : wpAnyD P md ops Q C d (fuel + 1) listed a w := by
 subst hd
 exact firstD hi (Region.noSelect_spec hs) hQ hid (fun _ => True) (Or.inl fun _ => trivial) fuel listed a w (Region.free_spec hi hf) (by simpa using hr) hy (Or.inl fun _ => trivial) hS h
theorem allD {rs : List Nat} {fuel : Nat} {listed : Array Bool} {a : Act} {w : World} (hr : Region.ready md ops listed = rs) (hne : rs ≠ [])
  (h : ∀ i ∈ rs, wpOp P ops Q i (fun a' w' => ((listed.setIfInBounds i true).getD d true = true ∨ C w') ∧ wpAnyD P md ops Q C d fuel (listed.setIfInBounds i true) a' w') a w) : wpAnyD P md ops Q C d (fuel + 1) listed a w :=
 ⟨fun h0 => absurd (hr ▸ h0) hne, hr ▸ h⟩
theorem oneD {i : Nat} {fuel : Nat} {listed : Array Bool} {a : Act} {w : World} (hr : Region.ready md ops listed = [i])
  (h : wpOp P ops Q i (fun a' w' => ((listed.setIfInBounds i true).getD d true = true ∨ C w') ∧ wpAnyD P md ops Q C d fuel (listed.setIfInBounds i true) a' w') a w) : wpAnyD P md ops Q C d (fuel + 1) listed a w :=
 allD hr (by simp) (fun j hj => by obtain rfl : j = i := (by simpa using hj); exact h)
theorem doneD {listed : Array Bool} {a : Act} {w : World} (hr : Region.ready md ops listed = []) (h : Q .normal a w) : ∀ fuel, wpAnyD P md ops Q C d fuel listed a w
 | 0 => ⟨hr, h⟩
 | _ + 1 => ⟨fun _ => h, by rw [hr]; simp⟩
theorem regionD {id : Nat} {a : Act} {w : World} (C : World → Prop) (d : Nat) (hm : P.follows .mixedOrders = true)
  (h : wpAnyD P .any ops Q C d ops.size (Array.replicate ops.size false) a w.drew) : (Code.region id ops true).wp P Q a w :=
 wp_region_any hm (wpAny_of_D _ _ _ _ h)
end
end Go.Proofs.YtpbbkpfaphjdoabGreatDoor
