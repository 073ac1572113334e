/- What compiled code comes to, verified and run: plain. -/
import Derived.Test.YthmbafkedgahaaaDoorCompile
namespace Go.Proofs.YthmbafkedgahaaaDoor
open Go.ChangeShapes Go.WideShapes Go.ChangeAt Go.RowKit

theorem comp_sound {cols : List Col} {e : Ex} (hh : (typeOf cols e).h = 0) : (verP (compE cols e) cols).err = 0 ∧ (verP (compE cols e) cols).ty = (typeOf cols e).t ∧ (compE cols e).length ≤ 6 * exN e ∧ exSize e = exN e ∧ exN e ≤ 200 := by
  obtain ⟨h1, h2, h3, h4, h5⟩ := typeOf_ok hh
  obtain ⟨s1, s2, s3⟩ := checkErr_ok h3
  have s4 := (size_ok 30 (Nat.le_refl _) e s2 s3).1
  have hl := comp_len (cols := cols) _ e (Nat.le_refl _)
  have hv := ver_of_seg (code := compE cols e) (t := (ofE cols e).t) (by omega) h4 (comp_pos cols e) (by
    have := fv_any (cols := cols) (L := (compE cols e).length) 30 e s2 h1 h2 0 [] (by omega) (by simp)
    rwa [List.nil_append] at this)
  rw [h5]
  exact ⟨hv.1, hv.2, hl, s4, by omega⟩
theorem comp_run {cols : List Col} {row : List Val} {e : Ex} {w : World} (hr : RowOk cols row) (he : SeesEx w e) (hh : (typeOf cols e).h = 0) :
    EvOk (evE cols row e) (ofE cols e).t ∧ ∃ done, done.length ≤ (compE cols e).length ∧ runV (compE cols e) row none 0 [] [] = ⟨(evE cols row e).k, done, (evE cols row e).v⟩ := by
  obtain ⟨h1, h2, -, -, -⟩ := typeOf_ok hh
  have hok := ev_sound hr _ e (Nat.le_refl _) w he h1 h2
  refine ⟨hok, ?_⟩
  obtain ⟨f1, f2⟩ := fr_any (code := compE cols e) hr _ e (Nat.le_refl _) w he h1 h2 0 [] ⟨[], by simp⟩
  obtain ⟨l, q1, q2, -, -⟩ := run_done (code := compE cols e) (row := row) (fuel := none) 0 [] []
  rw [List.nil_append] at q1
  refine ⟨(runV (compE cols e) row none 0 [] []).done, by rw [q1]; omega, ?_⟩
  by_cases hk : (evE cols row e).k = 0
  · obtain ⟨d, e1⟩ := f1 hk []
    rw [runV_end (i := 0 + (compE cols e).length) (by omega)] at e1
    rw [e1, hk]
    rfl
  · obtain ⟨d, e1⟩ := f2 hk []
    rcases hok with h | h
    · exact absurd h.1 hk
    · rw [e1, h.2]
theorem comp_ready {cols : List Col} {row : List Val} {e : Ex} (hh : (typeOf cols e).h = 0) : readyErr (compE cols e) cols row = rowErr cols row := by
  unfold readyErr
  rw [(comp_sound hh).1, if_neg (by decide)]
theorem vm_of_run {code : List Ins} {cols : List Col} {row : List Val} {k : Int} {done : List Nat} {v : Val} (hr : readyErr code cols row = 0) (hd : done.length < 1000000) (h : runV code row none 0 [] [] = ⟨k, done, v⟩) : vmRun code cols row 1000000 = (k, done.length, v) := by
  have hf := run_fuel (code := code) (row := row) 1000000 0 [] [] (by simp)
  rw [h] at hf
  rw [if_pos (Or.inl hd)] at hf
  unfold vmRun
  rw [hr, if_neg (by decide), if_neg (by omega), show (1000000 : Int).toNat = 1000000 from rfl, hf]
/-- Evaluated, or compiled and run: the same. -/
theorem comp_same {cols : List Col} {row : List Val} {e : Ex} {w : World} (he : SeesEx w e) (hw : ∀ v ∈ row, v.wf) (hh : (typeOf cols e).h = 0) :
    ∃ ek vv nn, evalR cols row e = ⟨ek, vv⟩ ∧ vmRun (compE cols e) cols row 1000000 = (ek, nn, vv) ∧ nn ≤ (compE cols e).length ∧ (rowErr cols row ≠ 0 → ek ≠ 0) ∧ (rowErr cols row = 0 → ek = 0 ∨ ek = 9) := by
  have hrd := comp_ready (row := row) hh
  by_cases hr : rowErr cols row = 0
  · obtain ⟨-, hro⟩ := rowErr_ok hr hw
    obtain ⟨hok, done, h1, h2⟩ := comp_run hro he hh
    have hl := comp_sound hh
    refine ⟨(evE cols row e).k, (evE cols row e).v, done.length, ?_, vm_of_run (by rw [hrd, hr]) (by omega) h2, h1, fun h => absurd hr h, fun _ => hok.elim (fun h => Or.inl h.1) (fun h => Or.inr h.1)⟩
    unfold evalR
    rw [hh, hr, if_neg (by decide), if_neg (by decide)]
  · refine ⟨rowErr cols row, noVal, 0, ?_, ?_, Nat.zero_le _, fun h => h, fun h => absurd h hr⟩
    · unfold evalR
      rw [hh, if_neg (by decide), if_pos hr]
    · unfold vmRun
      rw [hrd, if_pos hr]
end Go.Proofs.YthmbafkedgahaaaDoor
