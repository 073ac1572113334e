/- tree.Arity, walked, at any text. -/
import Derived.Test.YteoheaahlokdiaaDoorLevels
namespace Go.Proofs.YteoheaahlokdiaaDoor
open Go.ChangeShapes Go.WideShapes Go.ChangeAt Go.RowKit

/-- Is it a sign between two? -/
def isSign (s : ByteArray) : Bool := (List.range 5).any fun j => Lib.containsS (lvlB j) s
def signAr (s : ByteArray) : Int := if isSign s = true then 2 else -1
def arityOf (s : ByteArray) : Int :=
  if s.data.toList = [99, 111, 108] ∨ s.data.toList = [118, 97, 108] then 0
  else if s.data.toList = [110, 111, 116] ∨ s.data.toList = [110, 101, 103] ∨ s.data.toList = [108, 101, 110] then 1
  else if s.data.toList = [105, 102] then 3
  else signAr s
theorem bytes_of {s : ByteArray} {l : List UInt8} (h : s.data.toList = l) : s = mkB l := by rw [← h]; rfl
theorem str_ne {s : ByteArray} {l : List UInt8} (h : s.data.toList ≠ l) : (s.toList == l) = false := by
  rw [Lib.toList_data]; exact beq_eq_false_iff_ne.2 h

theorem arity_col (w : World) : Calls Tryd.prog 133 #[.string ⟨#[99, 111, 108]⟩] w fun e w' => e = .returned (.int .i64 0) ∧ w = w' := by
  go_enter Tryd.func133, Tryd.ntmps133
  go_wp2_with fail
  go_ret
  exact ⟨rfl, rfl⟩
theorem arity_val (w : World) : Calls Tryd.prog 133 #[.string ⟨#[118, 97, 108]⟩] w fun e w' => e = .returned (.int .i64 0) ∧ w = w' := by
  go_enter Tryd.func133, Tryd.ntmps133
  go_wp2_with fail
  go_ret
  exact ⟨rfl, rfl⟩
theorem arity_not (w : World) : Calls Tryd.prog 133 #[.string ⟨#[110, 111, 116]⟩] w fun e w' => e = .returned (.int .i64 1) ∧ w = w' := by
  go_enter Tryd.func133, Tryd.ntmps133
  go_wp2_with fail
  go_ret
  exact ⟨rfl, rfl⟩
theorem arity_neg (w : World) : Calls Tryd.prog 133 #[.string ⟨#[110, 101, 103]⟩] w fun e w' => e = .returned (.int .i64 1) ∧ w = w' := by
  go_enter Tryd.func133, Tryd.ntmps133
  go_wp2_with fail
  go_ret
  exact ⟨rfl, rfl⟩
theorem arity_len (w : World) : Calls Tryd.prog 133 #[.string ⟨#[108, 101, 110]⟩] w fun e w' => e = .returned (.int .i64 1) ∧ w = w' := by
  go_enter Tryd.func133, Tryd.ntmps133
  go_wp2_with fail
  go_ret
  exact ⟨rfl, rfl⟩
theorem arity_if (w : World) : Calls Tryd.prog 133 #[.string ⟨#[105, 102]⟩] w fun e w' => e = .returned (.int .i64 3) ∧ w = w' := by
  go_enter Tryd.func133, Tryd.ntmps133
  go_wp2_with fail
  go_ret
  exact ⟨rfl, rfl⟩
theorem isSign_take {s : ByteArray} {k : Nat} (h : ∀ j, j < k → Lib.containsS (lvlB j) s = false) (hk : k = 5) : isSign s = false := by
  subst hk
  unfold isSign
  rw [List.any_eq_false]
  intro j hj
  rw [h j (List.mem_range.1 hj)]; decide
theorem no_next {s : ByteArray} {k : Nat} (h : ∀ j, j < k → Lib.containsS (lvlB j) s = false) (hk : Lib.containsS (lvlB k) s = false) : ∀ j, j < k + 1 → Lib.containsS (lvlB j) s = false := by
  intro j hj
  by_cases e : j = k
  · rw [e]; exact hk
  · exact h j (by omega)
theorem isSign_hit {s : ByteArray} {k : Nat} (h : Lib.containsS (lvlB k) s = true) (hk : k < 5) : isSign s = true := by
  unfold isSign
  rw [List.any_eq_true]
  exact ⟨k, List.mem_range.2 hk, h⟩

set_option maxHeartbeats 4000000 in
set_option maxRecDepth 100000 in
theorem arity_sign (s : ByteArray) (w : World) (hT : LevelsT w)
    (h1 : s.data.toList ≠ [99, 111, 108]) (h2 : s.data.toList ≠ [118, 97, 108]) (h3 : s.data.toList ≠ [110, 111, 116]) (h4 : s.data.toList ≠ [110, 101, 103]) (h5 : s.data.toList ≠ [108, 101, 110]) (h6 : s.data.toList ≠ [105, 102]) :
    Calls Tryd.prog 133 #[.string s] w fun e w' => e = .returned (.int .i64 (signAr s)) ∧ w = w' := by
  have e1 := str_ne h1
  have e2 := str_ne h2
  have e3 := str_ne h3
  have e4 := str_ne h4
  have e5 := str_ne h5
  have e6 := str_ne h6
  clear h1 h2 h3 h4 h5 h6
  obtain ⟨A, c, hT⟩ := hT
  have c0 := (hT 0 (by omega)).1
  have c1 := (hT 1 (by omega)).1
  have c2 := (hT 2 (by omega)).1
  have c3 := (hT 3 (by omega)).1
  have c4 := (hT 4 (by omega)).1
  have HT := Lib.hid (fun j hj => (hT j hj).2)
  clear hT
  have i0 : ∀ w, (Instr.index 229 (.agg #[.slice (A 0) (lvlB 0).length (c 0), .slice (A 1) (lvlB 1).length (c 1), .slice (A 2) (lvlB 2).length (c 2), .slice (A 3) (lvlB 3).length (c 3), .slice (A 4) (lvlB 4).length (c 4)]) (.int .i64 0)).run Tryd.prog w = .ok (.slice (A 0) (lvlB 0).length (c 0)) w := fun _ => by kernel_rfl
  have i1 : ∀ w, (Instr.index 229 (.agg #[.slice (A 0) (lvlB 0).length (c 0), .slice (A 1) (lvlB 1).length (c 1), .slice (A 2) (lvlB 2).length (c 2), .slice (A 3) (lvlB 3).length (c 3), .slice (A 4) (lvlB 4).length (c 4)]) (.int .i64 1)).run Tryd.prog w = .ok (.slice (A 1) (lvlB 1).length (c 1)) w := fun _ => by kernel_rfl
  have i2 : ∀ w, (Instr.index 229 (.agg #[.slice (A 0) (lvlB 0).length (c 0), .slice (A 1) (lvlB 1).length (c 1), .slice (A 2) (lvlB 2).length (c 2), .slice (A 3) (lvlB 3).length (c 3), .slice (A 4) (lvlB 4).length (c 4)]) (.int .i64 2)).run Tryd.prog w = .ok (.slice (A 2) (lvlB 2).length (c 2)) w := fun _ => by kernel_rfl
  have i3 : ∀ w, (Instr.index 229 (.agg #[.slice (A 0) (lvlB 0).length (c 0), .slice (A 1) (lvlB 1).length (c 1), .slice (A 2) (lvlB 2).length (c 2), .slice (A 3) (lvlB 3).length (c 3), .slice (A 4) (lvlB 4).length (c 4)]) (.int .i64 3)).run Tryd.prog w = .ok (.slice (A 3) (lvlB 3).length (c 3)) w := fun _ => by kernel_rfl
  have i4 : ∀ w, (Instr.index 229 (.agg #[.slice (A 0) (lvlB 0).length (c 0), .slice (A 1) (lvlB 1).length (c 1), .slice (A 2) (lvlB 2).length (c 2), .slice (A 3) (lvlB 3).length (c 3), .slice (A 4) (lvlB 4).length (c 4)]) (.int .i64 4)).run Tryd.prog w = .ok (.slice (A 4) (lvlB 4).length (c 4)) w := fun _ => by kernel_rfl
  go_enter Tryd.func133, Tryd.ntmps133
  go_wp2_with fail
  go_loop [4, 16] (fun _ i => ∃ k : Nat, k ≤ 5 ∧ i = .int .i64 k ∧ ∀ j, j < k → Lib.containsS (lvlB j) s = false) (fun _ i => 5 - (intOf i).toNat)
  case atStart => exact ⟨0, by omega, rfl, fun j hj => by omega⟩
  case round =>
    obtain ⟨k, hk, rfl, hno⟩ := hrel
    have HN := Lib.hid hno
    clear hno
    by_cases hk5 : k = 5
    · have E := Lib.hid (show signAr s = -1 by unfold signAr; rw [isSign_take HN.out hk5]; rfl)
      subst hk5
      go_wp2_with fail
      go_ret
      exact ⟨by rw [E.out]; rfl, rfl⟩
    · have hlt : k < 5 := by omega
      have HS := Lib.hid (HT.out k hlt)
      generalize hB : Lib.containsS (lvlB k) s = b
      cases b with
      | true =>
        have E := Lib.hid (show signAr s = 2 by unfold signAr; rw [isSign_hit hB hlt]; rfl)
        have HB := Lib.hid hB
        clear hB hk5
        obtain rfl | rfl | rfl | rfl | rfl : k = 0 ∨ k = 1 ∨ k = 2 ∨ k = 3 ∨ k = 4 := by omega
        all_goals
          go_wp2_with fail
          refine (contains_any _ _ _ _ _ _ HS.out).mono ?_
          rintro e w' ⟨rfl, rfl⟩
          rw [HB.out]
          go_wp2_with fail
          go_ret
          exact ⟨by rw [E.out]; rfl, rfl⟩
      | false =>
        have HB := Lib.hid hB
        clear hB hk5
        obtain rfl | rfl | rfl | rfl | rfl : k = 0 ∨ k = 1 ∨ k = 2 ∨ k = 3 ∨ k = 4 := by omega
        all_goals
          go_wp2_with fail
          refine (contains_any _ _ _ _ _ _ HS.out).mono ?_
          rintro e w' ⟨rfl, rfl⟩
          rw [HB.out]
          go_wp2_with fail
          go_round
          case rel => first | exact ⟨1, by omega, rfl, no_next HN.out HB.out⟩ | exact ⟨2, by omega, rfl, no_next HN.out HB.out⟩ | exact ⟨3, by omega, rfl, no_next HN.out HB.out⟩ | exact ⟨4, by omega, rfl, no_next HN.out HB.out⟩ | exact ⟨5, by omega, rfl, no_next HN.out HB.out⟩
          case measure => simp [intOf]
/-- tree.Arity, at any text. -/
theorem arity_any (s : ByteArray) (w : World) (hT : LevelsT w) : Calls Tryd.prog 133 #[.string s] w fun e w' => e = .returned (.int .i64 (arityOf s)) ∧ w = w' := by
  unfold arityOf
  by_cases h1 : s.data.toList = [99, 111, 108]
  · rw [if_pos (Or.inl h1), bytes_of h1]; exact arity_col w
  by_cases h2 : s.data.toList = [118, 97, 108]
  · rw [if_pos (Or.inr h2), bytes_of h2]; exact arity_val w
  rw [if_neg (fun h => h.elim h1 h2)]
  by_cases h3 : s.data.toList = [110, 111, 116]
  · rw [if_pos (Or.inl h3), bytes_of h3]; exact arity_not w
  by_cases h4 : s.data.toList = [110, 101, 103]
  · rw [if_pos (Or.inr (Or.inl h4)), bytes_of h4]; exact arity_neg w
  by_cases h5 : s.data.toList = [108, 101, 110]
  · rw [if_pos (Or.inr (Or.inr h5)), bytes_of h5]; exact arity_len w
  rw [if_neg (fun h => h.elim h3 (fun h => h.elim h4 h5))]
  by_cases h6 : s.data.toList = [105, 102]
  · rw [if_pos h6, bytes_of h6]; exact arity_if w
  rw [if_neg h6]
  exact arity_sign s w hT h1 h2 h3 h4 h5 h6
end Go.Proofs.YteoheaahlokdiaaDoor
