/- agg.New, whatever is asked for. -/
import Derived.Test.YtjnlonemnjljiaaDoorAggNew
namespace Go.Proofs.YtjnlonemnjljiaaDoor
open Go.ChangeShapes Go.WideShapes Go.ChangeAt Go.RowKit

set_option maxHeartbeats 1000000 in
theorem new_shape (A0 T0 : Option Addr) (n c m tc : Nat) (w : World) (h : m ≠ n) :
    Calls Tryd.prog 9 #[.slice A0 n c, .slice T0 m tc] w fun e w' => e = .returned (.tuple #[.pointer none, .iface 78 (.int .i64 3)]) ∧ w = w' := by
  have e0 : ((m : Int) != n) = true := by simp; omega
  clear h
  go_enter Tryd.func9, Tryd.ntmps9
  go_wp2_with fail
  go_ret2
  exact ⟨rfl, rfl⟩
set_option maxHeartbeats 1000000 in
theorem new_full (A0 T0 : Option Addr) (n c tc : Nat) (w : World) (h : 6 < n) :
    Calls Tryd.prog 9 #[.slice A0 n c, .slice T0 n tc] w fun e w' => e = .returned (.tuple #[.pointer none, .iface 78 (.int .i64 4)]) ∧ w = w' := by
  have e0 : ((n : Int) != n) = false := by simp
  have d6 : decide (6 < (n : Int)) = true := decide_eq_true (by omega)
  have d6' : decide (6 < n) = true := decide_eq_true (by omega)
  clear h
  go_enter Tryd.func9, Tryd.ntmps9
  go_wp2_with fail
  go_ret2
  exact ⟨rfl, rfl⟩
theorem new_any (A0 T0 : Option Addr) (n c m tc : Nat) (l : List AggH) (ts : List Int) (w : World) (hl : SeesAggs w A0 n c l) (ht : Sees w T0 m tc 1 (intCells ts)) :
    Calls Tryd.prog 9 #[.slice A0 n c, .slice T0 m tc] w (NewSays l ts w) := by
  have h1 := hl.1
  have h2 := intCells_len ht
  by_cases hm : m = n
  · subst hm
    by_cases h6 : 6 < m
    · refine (new_full A0 T0 m c tc w h6).mono ?_
      rintro e w' ⟨rfl, rfl⟩
      have hf : newFault l ts = 4 := by unfold newFault; rw [if_neg (by omega), if_pos (by omega)]
      unfold NewSays
      rw [hf, if_neg (by decide)]
      exact ⟨rfl, Below.refl _ _⟩
    · exact new_walk A0 T0 c tc m l ts w hl ht (by omega)
  · refine (new_shape A0 T0 n c m tc w hm).mono ?_
    rintro e w' ⟨rfl, rfl⟩
    have hf : newFault l ts = 3 := by unfold newFault; rw [if_pos (by omega)]
    unfold NewSays
    rw [hf, if_neg (by decide)]
    exact ⟨rfl, Below.refl _ _⟩
end Go.Proofs.YtjnlonemnjljiaaDoor
