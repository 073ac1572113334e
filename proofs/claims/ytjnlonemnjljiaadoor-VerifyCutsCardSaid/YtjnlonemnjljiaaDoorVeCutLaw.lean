/- Code with something behind it: plain. -/
import Derived.Test.YtjnlonemnjljiaaDoorVeStep
namespace Go.Proofs.YtjnlonemnjljiaaDoor
open Go.RowKit

theorem getD_app {st ext : Sts} {i : Nat} (h : i < st.length) : (st ++ ext).getD i none = st.getD i none := by
  rw [List.getD_eq_getElem?_getD, List.getD_eq_getElem?_getD, List.getElem?_append_left h]
theorem reachP_app {st ext : Sts} {i : Nat} {l : List Int} (h : i < st.length) : reachP (st ++ ext) i l = ((reachP st i l).1, (reachP st i l).2 ++ ext) := by
  unfold reachP
  rw [getD_app h]
  cases st.getD i none with
  | none => simp only; rw [List.set_append_left _ _ h]
  | some m => rfl
theorem argErr_more {len i nc d : Nat} {x : Ins} (h : argErr len i nc x = 0) : argErr (len + d) i nc x = 0 := by
  unfold argErr at h ⊢
  split
  · rename_i h1; rw [if_pos h1] at h; exact h
  · rename_i h1
    rw [if_neg h1] at h
    split
    · rename_i h2; rw [if_pos h2] at h; exact h
    · rename_i h2
      rw [if_neg h2] at h
      split
      · rename_i h3; rw [if_pos h3] at h; exact h
      · rename_i h3
        rw [if_neg h3] at h
        split
        · rename_i h4
          rw [if_pos h4] at h
          by_cases hh : 0 ≤ x.arg ∧ x.arg < (len : Int) - i
          · exact if_pos (by omega)
          · rw [if_neg hh] at h; exact absurd h (by decide)
        · rename_i h4
          rw [if_neg h4] at h
          exact h
theorem stepP_app {cols : List Col} {len i d : Nat} {x : Ins} {st ext : Sts} {most : Nat} (h : (stepP cols len i x st most).1 = 0) (hl : st.length = len + 1) (hi : i < len) :
    stepP cols (len + d) i x (st ++ ext) most = (0, (stepP cols len i x st most).2.1 ++ ext, (stepP cols len i x st most).2.2) := by
  cases hst : st.getD i none with
  | none =>
    have : stepP cols len i x st most = (5, st, most) := by unfold stepP; rw [hst]
    rw [this] at h
    exact absurd h (show ¬ (5 : Int) = 0 by decide)
  | some l =>
    have hst2 : (st ++ ext).getD i none = some l := by rw [getD_app (by omega)]; exact hst
    by_cases ha : argErr len i cols.length x = 0
    · have ha2 : argErr (len + d) i cols.length x = 0 := argErr_more ha
      by_cases hc : (actP cols x l).1 = 0
      · by_cases h4 : x.what = 4
        · obtain ⟨a, ea, hia⟩ := arg_jump ha (Or.inl h4)
          rw [stepP_jump hst ha hc h4 ea] at h ⊢
          rw [stepP_jump hst2 ha2 hc h4 ea, reachP_app (by omega)]
          simp only at h ⊢
          rw [h]
        · by_cases h5 : x.what = 5
          · obtain ⟨a, ea, hia⟩ := arg_jump ha (Or.inr h5)
            by_cases hr : (reachP st (i + 1 + a) (actP cols x l).2).1 = 0
            · rw [stepP_else2 hst ha hc h5 ea hr] at h ⊢
              have e := reachP_app (st := st) (ext := ext) (i := i + 1 + a) (l := (actP cols x l).2) (by omega)
              rw [stepP_else2 hst2 ha2 hc h5 ea (by rw [e]; exact hr), e]
              simp only at h ⊢
              rw [reachP_app (by rw [reachP_len]; omega), h]
            · rw [stepP_else1 hst ha hc h5 ea hr] at h
              exact absurd h hr
          · rw [stepP_next hst ha hc h4 h5] at h ⊢
            rw [stepP_next hst2 ha2 hc h4 h5, reachP_app (by omega)]
            simp only at h ⊢
            rw [h]
      · rw [stepP_act hst ha hc] at h
        exact absurd h hc
    · rw [stepP_arg hst ha] at h
      exact absurd h ha
theorem stepP_len (cols : List Col) (len i : Nat) (x : Ins) (st : Sts) (most : Nat) : (stepP cols len i x st most).2.1.length = st.length := by
  unfold stepP
  split
  · rfl
  · split
    · rfl
    · split
      · rfl
      · split
        · exact reachP_len _ _ _
        · split
          · split
            · exact reachP_len _ _ _
            · exact (reachP_len _ _ _).trans (reachP_len _ _ _)
          · exact reachP_len _ _ _
theorem runP_app {cols : List Col} {len d : Nat} {ys : List Ins} {ext : Sts} : ∀ {xs : List Ins} {i : Nat} {st : Sts} {most : Nat}, (runP cols len i xs st most).2.1 = 0 → st.length = len + 1 → i + xs.length = len →
    runP cols (len + d) i (xs ++ ys) (st ++ ext) most = runP cols (len + d) len ys ((runP cols len i xs st most).2.2.1 ++ ext) (runP cols len i xs st most).2.2.2 ∧ (runP cols len i xs st most).2.2.1.length = len + 1
  | [], i, st, most, _, hl, hi => by
    obtain rfl : i = len := by simpa using hi
    exact ⟨rfl, hl⟩
  | x :: xs, i, st, most, h, hl, hi => by
    rw [List.length_cons] at hi
    by_cases hs : (stepP cols len i x st most).1 = 0
    · have e := stepP_app (d := d) (ext := ext) hs hl (by omega)
      rw [runP, if_neg (by simpa using hs)] at h ⊢
      rw [List.cons_append, runP, e, if_neg (by simp)]
      exact runP_app h (by rw [stepP_len]; exact hl) (by omega)
    · rw [runP, if_pos hs] at h
      exact absurd h hs
theorem startP_app (n d : Nat) : startP (n + d) = startP n ++ List.replicate d none := by
  unfold startP
  rw [List.cons_append, List.replicate_append_replicate]
def keepI : Ins := ⟨6, 0, noVal⟩
def dropI : Ins := ⟨7, 0, noVal⟩
theorem actP_keep (cols : List Col) (t : Int) : actP cols keepI [t] = (0, [t, t]) := rfl
theorem actP_drop (cols : List Col) (t : Int) : actP cols dropI [t, t] = (0, [t]) := rfl
theorem getD_set {st : Sts} {i : Nat} {l : List Int} (h : i < st.length) : (st.set i (some l)).getD i none = some l := by
  rw [List.getD_eq_getElem?_getD, List.getElem?_set_self h]; rfl
theorem reachP_new {st : Sts} {i : Nat} {l : List Int} (h : st.getD i none = none) : reachP st i l = (0, st.set i (some l)) := by
  unfold reachP; rw [h]
theorem getD_ext {st ext : Sts} {n j : Nat} (h : st.length = n + 1) (hj : ext[j]? = some none) : (st ++ ext).getD (n + 1 + j) none = none := by
  rw [List.getD_eq_getElem?_getD, List.getElem?_append_right (by omega), h, show n + 1 + j - (n + 1) = j by omega, hj]; rfl
/-- What sound code is. -/
theorem ver_sound {code : List Ins} {cols : List Col} (h : (verP code cols).err = 0) : code.length ≤ 1200 ∧ schemaErr cols = 0 ∧ ∃ st most t, runP cols code.length 0 code (startP code.length) 0 = (code.length, 0, st, most) ∧ st.length = code.length + 1 ∧ st.getD code.length none = some [t] ∧ verP code cols = ⟨0, 0, t, most⟩ := by
  have hrun : ∀ {xs : List Ins} {i : Nat} {st : Sts} {most : Nat}, (runP cols code.length i xs st most).2.1 = 0 → (runP cols code.length i xs st most).1 = i + xs.length := by
    intro xs
    induction xs with
    | nil => intro i st most _; rfl
    | cons x xs ih =>
      intro i st most h
      rw [runP] at h ⊢
      by_cases hs : (stepP cols code.length i x st most).1 ≠ 0
      · rw [if_pos hs] at h; exact absurd h hs
      · rw [if_neg hs] at h ⊢
        rw [ih h, List.length_cons]
        omega
  unfold verP at h ⊢
  by_cases h1 : 1200 < code.length
  · rw [if_pos h1] at h; exact absurd h (show ¬ (4 : Int) = 0 by decide)
  rw [if_neg h1] at h ⊢
  by_cases h2 : schemaErr cols ≠ 0
  · rw [if_pos h2] at h; exact absurd h h2
  rw [if_neg h2] at h ⊢
  by_cases h3 : (runP cols code.length 0 code (startP code.length) 0).2.1 ≠ 0
  · rw [if_pos h3] at h; exact absurd h h3
  rw [if_neg h3] at h ⊢
  by_cases h4 : (endP code.length (runP cols code.length 0 code (startP code.length) 0).2.2.1).length ≠ 1
  · rw [if_pos h4] at h; exact absurd h (show ¬ (3 : Int) = 0 by decide)
  rw [if_neg h4]
  have h3' : (runP cols code.length 0 code (startP code.length) 0).2.1 = 0 := by simpa using h3
  have h5 := hrun h3'
  have h6 := (runP_app (d := 0) (ys := []) (ext := []) h3' (startP_len _) (by omega)).2
  generalize runP cols code.length 0 code (startP code.length) 0 = r at h3' h4 h5 h6 ⊢
  obtain ⟨a, b, st, most⟩ := r
  simp only at h3' h4 h5 h6 ⊢
  subst h3' h5
  refine ⟨by omega, by simpa using h2, st, most, (endP code.length st).headD 0, by rw [Nat.zero_add], h6, ?_, rfl⟩
  unfold endP at h4 ⊢
  cases hst : st.getD code.length none with
  | none => rw [hst] at h4; simp at h4
  | some l =>
    rw [hst] at h4
    match l, h4 with
    | [t], _ => rfl
    | [], h4 => exact absurd h4 (by simp)
    | _ :: _ :: _, h4 => exact absurd h4 (by simp)
theorem ver_keep {code : List Ins} {cols : List Col} (h : (verP code cols).err = 0) (hl : code.length ≤ 1190) : verP (code ++ [keepI]) cols = ⟨code.length + 1, 3, 0, 0⟩ := by
  obtain ⟨-, hs, st, most, t, hr, hst, hend, -⟩ := ver_sound h
  have e := (runP_app (cols := cols) (len := code.length) (d := 1) (ys := [keepI]) (ext := List.replicate 1 none) (xs := code) (i := 0) (st := startP code.length) (most := 0) (by rw [hr]) (startP_len _) (by omega)).1
  rw [hr] at e
  simp only at e
  have s0 : (st ++ List.replicate 1 none).getD code.length none = some [t] := by rw [getD_app (by omega)]; exact hend
  have s1 : (st ++ List.replicate 1 none).getD (code.length + 1) none = none := getD_ext (j := 0) hst rfl
  have step : stepP cols (code.length + 1) code.length keepI (st ++ List.replicate 1 none) most = (0, (st ++ List.replicate 1 none).set (code.length + 1) (some [t, t]), max most 2) := by
    rw [stepP_next s0 rfl (by rw [actP_keep]) (by decide) (by decide), actP_keep, reachP_new s1]; rfl
  rw [runP, step, if_neg (by simp), runP] at e
  unfold verP
  rw [show (code ++ [keepI]).length = code.length + 1 by simp, if_neg (by omega), if_neg (by simpa using hs), startP_app, e, if_neg (by simp)]
  have : endP (code.length + 1) ((st ++ List.replicate 1 none).set (code.length + 1) (some [t, t])) = [t, t] := by
    unfold endP; rw [getD_set (by simp [hst])]; rfl
  rw [this]
  rfl
theorem ver_keep_drop {code : List Ins} {cols : List Col} (h : (verP code cols).err = 0) (hl : code.length ≤ 1190) : (verP (code ++ [keepI, dropI]) cols).err = 0 ∧ (verP (code ++ [keepI, dropI]) cols).ty = (verP code cols).ty := by
  obtain ⟨-, hs, st, most, t, hr, hst, hend, hv⟩ := ver_sound h
  have e := (runP_app (cols := cols) (len := code.length) (d := 2) (ys := [keepI, dropI]) (ext := List.replicate 2 none) (xs := code) (i := 0) (st := startP code.length) (most := 0) (by rw [hr]) (startP_len _) (by omega)).1
  rw [hr] at e
  simp only at e
  have s0 : (st ++ List.replicate 2 none).getD code.length none = some [t] := by rw [getD_app (by omega)]; exact hend
  have s1 : (st ++ List.replicate 2 none).getD (code.length + 1) none = none := getD_ext (j := 0) hst rfl
  have s2 : (st ++ List.replicate 2 none).getD (code.length + 1 + 1) none = none := getD_ext (j := 1) hst rfl
  have step : stepP cols (code.length + 2) code.length keepI (st ++ List.replicate 2 none) most = (0, (st ++ List.replicate 2 none).set (code.length + 1) (some [t, t]), max most 2) := by
    rw [stepP_next s0 rfl (by rw [actP_keep]) (by decide) (by decide), actP_keep, reachP_new s1]; rfl
  have s3 : ((st ++ List.replicate 2 none).set (code.length + 1) (some [t, t])).getD (code.length + 1) none = some [t, t] := getD_set (by simp [hst])
  have s4 : ((st ++ List.replicate 2 none).set (code.length + 1) (some [t, t])).getD (code.length + 1 + 1) none = none := by
    rw [List.getD_eq_getElem?_getD, List.getElem?_set_ne (by omega), ← List.getD_eq_getElem?_getD]; exact s2
  have step2 : stepP cols (code.length + 2) (code.length + 1) dropI ((st ++ List.replicate 2 none).set (code.length + 1) (some [t, t])) (max most 2) = (0, ((st ++ List.replicate 2 none).set (code.length + 1) (some [t, t])).set (code.length + 1 + 1) (some [t]), max (max most 2) 1) := by
    rw [stepP_next s3 rfl (by rw [actP_drop]) (by decide) (by decide), actP_drop, reachP_new s4]; rfl
  rw [runP, step, if_neg (by simp), runP, step2, if_neg (by simp), runP] at e
  have hv2 : verP (code ++ [keepI, dropI]) cols = ⟨0, 0, t, max (max most 2) 1⟩ := by
    unfold verP
    rw [show (code ++ [keepI, dropI]).length = code.length + 2 by simp, if_neg (by omega), if_neg (by simpa using hs), startP_app, e, if_neg (by simp)]
    have : endP (code.length + 2) (((st ++ List.replicate 2 none).set (code.length + 1) (some [t, t])).set (code.length + 1 + 1) (some [t])) = [t] := by
      unfold endP; rw [show code.length + 2 = code.length + 1 + 1 from rfl, getD_set (by simp [hst])]; rfl
    rw [this]
    rfl
  rw [hv2, hv]
  exact ⟨rfl, rfl⟩
def oneCol : List Col := [⟨⟨#[120]⟩, 1⟩]
theorem ver_none : verP [] oneCol = ⟨0, 3, 0, 0⟩ := rfl
end Go.Proofs.YtjnlonemnjljiaaDoor
