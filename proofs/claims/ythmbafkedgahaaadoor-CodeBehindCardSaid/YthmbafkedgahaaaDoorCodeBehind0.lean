/- Code behind other code that leaves nothing: plain. -/
import Derived.Test.YthmbafkedgahaaaDoorCodeEnd
namespace Go.Proofs.YthmbafkedgahaaaDoor
open Go.ChangeShapes Go.WideShapes Go.ChangeAt Go.RowKit

/-- Numbers that are laid on, and taken off again. -/
def preP : Nat → List Ins
  | 0 => []
  | n + 1 => preP n ++ [pushI (ofV n), dropI]
theorem preP_len : ∀ n, (preP n).length = 2 * n
  | 0 => rfl
  | n + 1 => by rw [preP, List.length_append, preP_len n]; show 2 * n + 2 = _; omega
theorem vseg_pair {cols : List Col} {L i : Nat} {l : List Int} (v : Val) (hv : vcheck v = 0) (hL : i + 2 ≤ L) (hl : l.length + 1 ≤ 64) : VSeg cols L [pushI v, dropI] i l l := by
  have h1 : VSeg cols L [pushI v] i l (l ++ [v.type]) := vseg_one (by omega) (show vcheck v = 0 from hv) (act_push hl) (show ¬ (1 : Int) = 4 by decide) (show ¬ (1 : Int) = 5 by decide)
  have h2 : VSeg cols L [dropI] (i + [pushI v].length) (l ++ [v.type]) l := vseg_one (by show i + 1 < L; omega) rfl (act_drop (by omega)) (show ¬ (7 : Int) = 4 by decide) (show ¬ (7 : Int) = 5 by decide)
  exact VSeg.app (xs := [pushI v]) (ys := [dropI]) Nat.one_pos Nat.one_pos h1 h2
theorem vseg_pre {cols : List Col} {L : Nat} : ∀ n, 0 < n → 2 * n ≤ L → VSeg cols L (preP n) 0 [] []
  | 0, h, _ => absurd h (by omega)
  | 1, _, hL => vseg_pair _ rfl (by omega) (by simp)
  | n + 2, _, hL => by
    rw [preP]
    refine VSeg.app (by rw [preP_len]; omega) (by show 0 < 2; omega) (vseg_pre (n + 1) (by omega) (by omega)) ?_
    exact vseg_pair _ rfl (by rw [preP_len]; omega) (by simp)
theorem run_pair {code : List Ins} {row : List Val} {i : Nat} {s : List Val} {v : Val} (hat : AtC code i [pushI v, dropI]) : RunTo code row i s (i + 2) s := by
  have h1 := RunTo.step (row := row) (s := s) (s' := s ++ [v]) (q := 0) hat.head rfl
  have h2 := RunTo.step (row := row) (s := s ++ [v]) (s' := s) (q := 0) hat.tail.head (by
    show ((0 : Int), (s ++ [v]).take ((s ++ [v]).length - 1), 0) = _
    simp)
  exact h1.trans h2
theorem run_pre {code : List Ins} {row : List Val} : ∀ n, AtC code 0 (preP n) → RunTo code row 0 [] (2 * n) []
  | 0, _ => RunTo.refl _ _ _ _
  | n + 1, hat => by
    rw [preP] at hat
    have h1 := run_pre (row := row) n hat.left
    have h2 := hat.right
    rw [preP_len, Nat.zero_add] at h2
    exact h1.trans (run_pair (row := row) h2)
theorem behind_sound {cols : List Col} {e : Ex} {n : Nat} (hh : (typeOf cols e).h = 0) (hl : (preP n ++ compE cols e).length ≤ 1200) : (verP (preP n ++ compE cols e) cols).err = 0 ∧ (verP (preP n ++ compE cols e) cols).ty = (typeOf cols e).t := by
  obtain ⟨h1, h2, h3, h4, h5⟩ := typeOf_ok hh
  obtain ⟨s1, s2, s3⟩ := checkErr_ok h3
  have hlen : (preP n ++ compE cols e).length = 2 * n + (compE cols e).length := by rw [List.length_append, preP_len]
  rw [h5]
  refine ver_of_seg hl h4 (by have := comp_pos cols e; omega) ?_
  have hc := fv_any (cols := cols) (L := (preP n ++ compE cols e).length) 30 e s2 h1 h2 (2 * n) [] (by omega) (by simp)
  rw [List.nil_append] at hc
  by_cases hn : n = 0
  · subst hn; exact hc
  · refine VSeg.app (by rw [preP_len]; omega) (comp_pos cols e) (vseg_pre n (by omega) (by omega)) ?_
    rw [preP_len, Nat.zero_add]
    exact hc
theorem behind_same {cols : List Col} {row : List Val} {e : Ex} {w : World} {n : Nat} (he : SeesEx w e) (hw : ∀ v ∈ row, v.wf) (hh : (typeOf cols e).h = 0) (hl : (preP n ++ compE cols e).length ≤ 1200) :
    ∃ ek vv nn, evalR cols row e = ⟨ek, vv⟩ ∧ vmRun (preP n ++ compE cols e) cols row 1000000 = (ek, nn, vv) := by
  have hrd : readyErr (preP n ++ compE cols e) cols row = rowErr cols row := by
    unfold readyErr
    rw [(behind_sound hh hl).1, if_neg (by decide)]
  by_cases hr : rowErr cols row = 0
  · obtain ⟨-, hro⟩ := rowErr_ok hr hw
    obtain ⟨h1, h2, -, -, -⟩ := typeOf_ok hh
    have hok := ev_sound hro _ e (Nat.le_refl _) w he h1 h2
    have hlen : (preP n ++ compE cols e).length = 2 * n + (compE cols e).length := by rw [List.length_append, preP_len]
    have hat : AtC (preP n ++ compE cols e) 0 (preP n ++ compE cols e) := ⟨[], by simp⟩
    have hp := run_pre (row := row) n hat.left
    have hatc := hat.right
    rw [preP_len, Nat.zero_add] at hatc
    obtain ⟨f1, f2⟩ := fr_any (code := preP n ++ compE cols e) hro _ e (Nat.le_refl _) w he h1 h2 (2 * n) [] hatc
    obtain ⟨l, q1, q2, -, -⟩ := run_done (code := preP n ++ compE cols e) (row := row) (fuel := none) 0 [] []
    rw [List.nil_append] at q1
    have hev : evalR cols row e = ⟨(evE cols row e).k, (evE cols row e).v⟩ := by
      unfold evalR
      rw [hh, hr, if_neg (by decide), if_neg (by decide)]
    refine ⟨(evE cols row e).k, (evE cols row e).v, (runV (preP n ++ compE cols e) row none 0 [] []).done.length, hev, vm_of_run (by rw [hrd, hr]) (by rw [q1]; omega) ?_⟩
    by_cases hk : (evE cols row e).k = 0
    · obtain ⟨d, e1⟩ := (hp.trans (f1 hk)) []
      rw [runV_end (i := 2 * n + (compE cols e).length) (by omega)] at e1
      rw [e1, hk]
      rfl
    · obtain ⟨d, e1⟩ := (hp.err (f2 hk)) []
      rcases hok with h | h
      · exact absurd h.1 hk
      · rw [e1, h.2]
  · refine ⟨rowErr cols row, noVal, 0, ?_, ?_⟩
    · unfold evalR
      rw [hh, if_neg (by decide), if_pos hr]
    · unfold vmRun
      rw [hrd, if_pos hr]
end Go.Proofs.YthmbafkedgahaaaDoor
