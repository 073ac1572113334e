/- Code with something behind it: plain. What the machine does with code, plain; that sound code runs: the types on the stack are as verify said. No program in sight. -/
import Derived.Test.YthmbafkedgahaaaDoorVeOf
import Derived.Test.YthmbafkedgahaaaDoorEvFn
namespace Go.Proofs.YthmbafkedgahaaaDoor
open Go.RowKit

theorem getD_app {st ext : Sts} {i : Nat} (h : i < st.length) : (st ++ ext).getD i none = st.getD i none := by
  rw [List.getD_eq_getElem?_getD, List.getD_eq_getElem?_getD, List.getElem?_append_left h]
theorem reachP_app {st ext : Sts} {i : Nat} {l : List Int} (h : i < st.length) : reachP (st ++ ext) i l = ((reachP st i l).1, (reachP st i l).2 ++ ext) := by
  unfold reachP
  rw [getD_app h]
  cases st.getD i none with
  | none => simp only; rw [List.set_append_left _ _ h]
  | some m => rfl
theorem argErr_more {len i nc d : Nat} {x : Ins} (h : argErr len i nc x = 0) : argErr (len + d) i nc x = 0 := by
  unfold argErr at h ⊢
  split
  · rename_i h1; rw [if_pos h1] at h; exact h
  · rename_i h1
    rw [if_neg h1] at h
    split
    · rename_i h2; rw [if_pos h2] at h; exact h
    · rename_i h2
      rw [if_neg h2] at h
      split
      · rename_i h3; rw [if_pos h3] at h; exact h
      · rename_i h3
        rw [if_neg h3] at h
        split
        · rename_i h4
          rw [if_pos h4] at h
          by_cases hh : 0 ≤ x.arg ∧ x.arg < (len : Int) - i
          · exact if_pos (by omega)
          · rw [if_neg hh] at h; exact absurd h (by decide)
        · rename_i h4
          rw [if_neg h4] at h
          exact h
theorem stepP_app {cols : List Col} {len i d : Nat} {x : Ins} {st ext : Sts} {most : Nat} (h : (stepP cols len i x st most).1 = 0) (hl : st.length = len + 1) (hi : i < len) :
    stepP cols (len + d) i x (st ++ ext) most = (0, (stepP cols len i x st most).2.1 ++ ext, (stepP cols len i x st most).2.2) := by
  cases hst : st.getD i none with
  | none =>
    have : stepP cols len i x st most = (5, st, most) := by unfold stepP; rw [hst]
    rw [this] at h
    exact absurd h (show ¬ (5 : Int) = 0 by decide)
  | some l =>
    have hst2 : (st ++ ext).getD i none = some l := by rw [getD_app (by omega)]; exact hst
    by_cases ha : argErr len i cols.length x = 0
    · have ha2 : argErr (len + d) i cols.length x = 0 := argErr_more ha
      by_cases hc : (actP cols x l).1 = 0
      · by_cases h4 : x.what = 4
        · obtain ⟨a, ea, hia⟩ := arg_jump ha (Or.inl h4)
          rw [stepP_jump hst ha hc h4 ea] at h ⊢
          rw [stepP_jump hst2 ha2 hc h4 ea, reachP_app (by omega)]
          simp only at h ⊢
          rw [h]
        · by_cases h5 : x.what = 5
          · obtain ⟨a, ea, hia⟩ := arg_jump ha (Or.inr h5)
            by_cases hr : (reachP st (i + 1 + a) (actP cols x l).2).1 = 0
            · rw [stepP_else2 hst ha hc h5 ea hr] at h ⊢
              have e := reachP_app (st := st) (ext := ext) (i := i + 1 + a) (l := (actP cols x l).2) (by omega)
              rw [stepP_else2 hst2 ha2 hc h5 ea (by rw [e]; exact hr), e]
              simp only at h ⊢
              rw [reachP_app (by rw [reachP_len]; omega), h]
            · rw [stepP_else1 hst ha hc h5 ea hr] at h
              exact absurd h hr
          · rw [stepP_next hst ha hc h4 h5] at h ⊢
            rw [stepP_next hst2 ha2 hc h4 h5, reachP_app (by omega)]
            simp only at h ⊢
            rw [h]
      · rw [stepP_act hst ha hc] at h
        exact absurd h hc
    · rw [stepP_arg hst ha] at h
      exact absurd h ha
theorem stepP_len (cols : List Col) (len i : Nat) (x : Ins) (st : Sts) (most : Nat) : (stepP cols len i x st most).2.1.length = st.length := by
  unfold stepP
  split
  · rfl
  · split
    · rfl
    · split
      · rfl
      · split
        · exact reachP_len _ _ _
        · split
          · split
            · exact reachP_len _ _ _
            · exact (reachP_len _ _ _).trans (reachP_len _ _ _)
          · exact reachP_len _ _ _
theorem runP_app {cols : List Col} {len d : Nat} {ys : List Ins} {ext : Sts} : ∀ {xs : List Ins} {i : Nat} {st : Sts} {most : Nat}, (runP cols len i xs st most).2.1 = 0 → st.length = len + 1 → i + xs.length = len →
    runP cols (len + d) i (xs ++ ys) (st ++ ext) most = runP cols (len + d) len ys ((runP cols len i xs st most).2.2.1 ++ ext) (runP cols len i xs st most).2.2.2 ∧ (runP cols len i xs st most).2.2.1.length = len + 1
  | [], i, st, most, _, hl, hi => by
    obtain rfl : i = len := by simpa using hi
    exact ⟨rfl, hl⟩
  | x :: xs, i, st, most, h, hl, hi => by
    rw [List.length_cons] at hi
    by_cases hs : (stepP cols len i x st most).1 = 0
    · have e := stepP_app (d := d) (ext := ext) hs hl (by omega)
      rw [runP, if_neg (by simpa using hs)] at h ⊢
      rw [List.cons_append, runP, e, if_neg (by simp)]
      exact runP_app h (by rw [stepP_len]; exact hl) (by omega)
    · rw [runP, if_pos hs] at h
      exact absurd h hs
theorem startP_app (n d : Nat) : startP (n + d) = startP n ++ List.replicate d none := by
  unfold startP
  rw [List.cons_append, List.replicate_append_replicate]
def keepI : Ins := ⟨6, 0, noVal⟩
def dropI : Ins := ⟨7, 0, noVal⟩
theorem actP_keep (cols : List Col) (t : Int) : actP cols keepI [t] = (0, [t, t]) := rfl
theorem actP_drop (cols : List Col) (t : Int) : actP cols dropI [t, t] = (0, [t]) := rfl
theorem getD_set {st : Sts} {i : Nat} {l : List Int} (h : i < st.length) : (st.set i (some l)).getD i none = some l := by
  rw [List.getD_eq_getElem?_getD, List.getElem?_set_self h]; rfl
theorem reachP_new {st : Sts} {i : Nat} {l : List Int} (h : st.getD i none = none) : reachP st i l = (0, st.set i (some l)) := by
  unfold reachP; rw [h]
theorem getD_ext {st ext : Sts} {n j : Nat} (h : st.length = n + 1) (hj : ext[j]? = some none) : (st ++ ext).getD (n + 1 + j) none = none := by
  rw [List.getD_eq_getElem?_getD, List.getElem?_append_right (by omega), h, show n + 1 + j - (n + 1) = j by omega, hj]; rfl
/-- What sound code is. -/
theorem ver_sound {code : List Ins} {cols : List Col} (h : (verP code cols).err = 0) : code.length ≤ 1200 ∧ schemaErr cols = 0 ∧ ∃ st most t, runP cols code.length 0 code (startP code.length) 0 = (code.length, 0, st, most) ∧ st.length = code.length + 1 ∧ st.getD code.length none = some [t] ∧ verP code cols = ⟨0, 0, t, most⟩ := by
  have hrun : ∀ {xs : List Ins} {i : Nat} {st : Sts} {most : Nat}, (runP cols code.length i xs st most).2.1 = 0 → (runP cols code.length i xs st most).1 = i + xs.length := by
    intro xs
    induction xs with
    | nil => intro i st most _; rfl
    | cons x xs ih =>
      intro i st most h
      rw [runP] at h ⊢
      by_cases hs : (stepP cols code.length i x st most).1 ≠ 0
      · rw [if_pos hs] at h; exact absurd h hs
      · rw [if_neg hs] at h ⊢
        rw [ih h, List.length_cons]
        omega
  unfold verP at h ⊢
  by_cases h1 : 1200 < code.length
  · rw [if_pos h1] at h; exact absurd h (show ¬ (4 : Int) = 0 by decide)
  rw [if_neg h1] at h ⊢
  by_cases h2 : schemaErr cols ≠ 0
  · rw [if_pos h2] at h; exact absurd h h2
  rw [if_neg h2] at h ⊢
  by_cases h3 : (runP cols code.length 0 code (startP code.length) 0).2.1 ≠ 0
  · rw [if_pos h3] at h; exact absurd h h3
  rw [if_neg h3] at h ⊢
  by_cases h4 : (endP code.length (runP cols code.length 0 code (startP code.length) 0).2.2.1).length ≠ 1
  · rw [if_pos h4] at h; exact absurd h (show ¬ (3 : Int) = 0 by decide)
  rw [if_neg h4]
  have h3' : (runP cols code.length 0 code (startP code.length) 0).2.1 = 0 := by simpa using h3
  have h5 := hrun h3'
  have h6 := (runP_app (d := 0) (ys := []) (ext := []) h3' (startP_len _) (by omega)).2
  generalize runP cols code.length 0 code (startP code.length) 0 = r at h3' h4 h5 h6 ⊢
  obtain ⟨a, b, st, most⟩ := r
  simp only at h3' h4 h5 h6 ⊢
  subst h3' h5
  refine ⟨by omega, by simpa using h2, st, most, (endP code.length st).headD 0, by rw [Nat.zero_add], h6, ?_, rfl⟩
  unfold endP at h4 ⊢
  cases hst : st.getD code.length none with
  | none => rw [hst] at h4; simp at h4
  | some l =>
    rw [hst] at h4
    match l, h4 with
    | [t], _ => rfl
    | [], h4 => exact absurd h4 (by simp)
    | _ :: _ :: _, h4 => exact absurd h4 (by simp)
theorem ver_keep {code : List Ins} {cols : List Col} (h : (verP code cols).err = 0) (hl : code.length ≤ 1190) : verP (code ++ [keepI]) cols = ⟨code.length + 1, 3, 0, 0⟩ := by
  obtain ⟨-, hs, st, most, t, hr, hst, hend, -⟩ := ver_sound h
  have e := (runP_app (cols := cols) (len := code.length) (d := 1) (ys := [keepI]) (ext := List.replicate 1 none) (xs := code) (i := 0) (st := startP code.length) (most := 0) (by rw [hr]) (startP_len _) (by omega)).1
  rw [hr] at e
  simp only at e
  have s0 : (st ++ List.replicate 1 none).getD code.length none = some [t] := by rw [getD_app (by omega)]; exact hend
  have s1 : (st ++ List.replicate 1 none).getD (code.length + 1) none = none := getD_ext (j := 0) hst rfl
  have step : stepP cols (code.length + 1) code.length keepI (st ++ List.replicate 1 none) most = (0, (st ++ List.replicate 1 none).set (code.length + 1) (some [t, t]), max most 2) := by
    rw [stepP_next s0 rfl (by rw [actP_keep]) (by decide) (by decide), actP_keep, reachP_new s1]; rfl
  rw [runP, step, if_neg (by simp), runP] at e
  unfold verP
  rw [show (code ++ [keepI]).length = code.length + 1 by simp, if_neg (by omega), if_neg (by simpa using hs), startP_app, e, if_neg (by simp)]
  have : endP (code.length + 1) ((st ++ List.replicate 1 none).set (code.length + 1) (some [t, t])) = [t, t] := by
    unfold endP; rw [getD_set (by simp [hst])]; rfl
  rw [this]
  rfl
theorem ver_keep_drop {code : List Ins} {cols : List Col} (h : (verP code cols).err = 0) (hl : code.length ≤ 1190) : (verP (code ++ [keepI, dropI]) cols).err = 0 ∧ (verP (code ++ [keepI, dropI]) cols).ty = (verP code cols).ty := by
  obtain ⟨-, hs, st, most, t, hr, hst, hend, hv⟩ := ver_sound h
  have e := (runP_app (cols := cols) (len := code.length) (d := 2) (ys := [keepI, dropI]) (ext := List.replicate 2 none) (xs := code) (i := 0) (st := startP code.length) (most := 0) (by rw [hr]) (startP_len _) (by omega)).1
  rw [hr] at e
  simp only at e
  have s0 : (st ++ List.replicate 2 none).getD code.length none = some [t] := by rw [getD_app (by omega)]; exact hend
  have s1 : (st ++ List.replicate 2 none).getD (code.length + 1) none = none := getD_ext (j := 0) hst rfl
  have s2 : (st ++ List.replicate 2 none).getD (code.length + 1 + 1) none = none := getD_ext (j := 1) hst rfl
  have step : stepP cols (code.length + 2) code.length keepI (st ++ List.replicate 2 none) most = (0, (st ++ List.replicate 2 none).set (code.length + 1) (some [t, t]), max most 2) := by
    rw [stepP_next s0 rfl (by rw [actP_keep]) (by decide) (by decide), actP_keep, reachP_new s1]; rfl
  have s3 : ((st ++ List.replicate 2 none).set (code.length + 1) (some [t, t])).getD (code.length + 1) none = some [t, t] := getD_set (by simp [hst])
  have s4 : ((st ++ List.replicate 2 none).set (code.length + 1) (some [t, t])).getD (code.length + 1 + 1) none = none := by
    rw [List.getD_eq_getElem?_getD, List.getElem?_set_ne (by omega), ← List.getD_eq_getElem?_getD]; exact s2
  have step2 : stepP cols (code.length + 2) (code.length + 1) dropI ((st ++ List.replicate 2 none).set (code.length + 1) (some [t, t])) (max most 2) = (0, ((st ++ List.replicate 2 none).set (code.length + 1) (some [t, t])).set (code.length + 1 + 1) (some [t]), max (max most 2) 1) := by
    rw [stepP_next s3 rfl (by rw [actP_drop]) (by decide) (by decide), actP_drop, reachP_new s4]; rfl
  rw [runP, step, if_neg (by simp), runP, step2, if_neg (by simp), runP] at e
  have hv2 : verP (code ++ [keepI, dropI]) cols = ⟨0, 0, t, max (max most 2) 1⟩ := by
    unfold verP
    rw [show (code ++ [keepI, dropI]).length = code.length + 2 by simp, if_neg (by omega), if_neg (by simpa using hs), startP_app, e, if_neg (by simp)]
    have : endP (code.length + 2) (((st ++ List.replicate 2 none).set (code.length + 1) (some [t, t])).set (code.length + 1 + 1) (some [t])) = [t] := by
      unfold endP; rw [show code.length + 2 = code.length + 1 + 1 from rfl, getD_set (by simp [hst])]; rfl
    rw [this]
    rfl
  rw [hv2, hv]
  exact ⟨rfl, rfl⟩
def oneCol : List Col := [⟨⟨#[120]⟩, 1⟩]
theorem ver_none : verP [] oneCol = ⟨0, 3, 0, 0⟩ := rfl
end Go.Proofs.YthmbafkedgahaaaDoor
namespace Go.Proofs.YthmbafkedgahaaaDoor
open Go.RowKit

/-- The value that lies uppermost. -/
def topV (s : List Val) : Val := (s.drop (s.length - 1)).headD noVal
/-- One instruction: the fault, the stack behind it, how many are passed over. -/
def doP (row : List Val) (x : Ins) (s : List Val) : Int × List Val × Nat :=
  if x.what = 1 then (0, s ++ [x.val], 0) else
  if x.what = 2 then (0, s ++ [row.getD x.arg.toNat noVal], 0) else
  if x.what = 3 then
    (if applyErr (opNm x.arg) (s.drop (s.length - need x)) ≠ 0 then (applyErr (opNm x.arg) (s.drop (s.length - need x)), s, 0)
     else (0, s.take (s.length - need x) ++ [applyVal (opNm x.arg) (s.drop (s.length - need x))], 0)) else
  if x.what = 4 then (0, s, x.arg.toNat) else
  if x.what = 5 then (0, s.take (s.length - 1), if (topV s).n = 0 then x.arg.toNat else 0) else
  if x.what = 6 then (0, s ++ [topV s], 0) else
  if x.what = 7 then (0, s.take (s.length - 1), 0) else (0, s, 0)
/-- What running comes to: the fault, which were done, the value. -/
structure VmR where
  err : Int
  done : List Nat
  val : Val
def runM (code : List Ins) (row : List Val) (fuel : Option Nat) : Nat → Nat → List Nat → List Val → VmR
  | 0, _, done, s => ⟨0, done, s.headD noVal⟩
  | g + 1, i, done, s => match code[i]? with
    | none => ⟨0, done, s.headD noVal⟩
    | some x =>
      if fuel = some done.length then ⟨10, done, noVal⟩ else
      if (doP row x s).1 ≠ 0 then ⟨(doP row x s).1, done, noVal⟩ else
      runM code row fuel g (i + 1 + (doP row x s).2.2) (done ++ [i]) (doP row x s).2.1
theorem runM_over {code : List Ins} {row : List Val} {fuel : Option Nat} {g i : Nat} {done : List Nat} {s : List Val} (h : code.length ≤ i) : runM code row fuel g i done s = ⟨0, done, s.headD noVal⟩ := by
  cases g with
  | zero => rfl
  | succ g => rw [runM, List.getElem?_eq_none h]
theorem runM_gas {code : List Ins} {row : List Val} {fuel : Option Nat} : ∀ {g i : Nat} {done : List Nat} {s : List Val}, code.length ≤ g + i → runM code row fuel g i done s = runM code row fuel (code.length - i) i done s
  | 0, i, done, s, h => by rw [runM_over (by omega), runM_over (by omega)]
  | g + 1, i, done, s, h => by
    by_cases hi : i < code.length
    · obtain ⟨m, hm⟩ : ∃ m, code.length - i = m + 1 := ⟨code.length - i - 1, by omega⟩
      rw [hm, runM, runM, List.getElem?_eq_getElem hi]
      dsimp only
      split
      · rfl
      · split
        · rfl
        · rw [runM_gas (g := g) (by omega), runM_gas (g := m) (by omega)]
    · rw [runM_over (by omega), runM_over (by omega)]
/-- Running from i on. -/
def runV (code : List Ins) (row : List Val) (fuel : Option Nat) (i : Nat) (done : List Nat) (s : List Val) : VmR := runM code row fuel (code.length - i) i done s
section
variable {code : List Ins} {row : List Val} {fuel : Option Nat} {i : Nat} {done : List Nat} {s : List Val} {x : Ins}
theorem runV_end (h : code.length ≤ i) : runV code row fuel i done s = ⟨0, done, s.headD noVal⟩ := runM_over h
theorem runV_step (h : code[i]? = some x) : runV code row fuel i done s =
    if fuel = some done.length then ⟨10, done, noVal⟩ else if (doP row x s).1 ≠ 0 then ⟨(doP row x s).1, done, noVal⟩ else runV code row fuel (i + 1 + (doP row x s).2.2) (done ++ [i]) (doP row x s).2.1 := by
  have hi := (List.getElem?_eq_some_iff.1 h).1
  obtain ⟨m, hm⟩ : ∃ m, code.length - i = m + 1 := ⟨code.length - i - 1, by omega⟩
  unfold runV
  rw [hm, runM, h]
  dsimp only
  split
  · rfl
  · split
    · rfl
    · exact runM_gas (by omega)
theorem runV_out (h : code[i]? = some x) (hf : fuel = some done.length) : runV code row fuel i done s = ⟨10, done, noVal⟩ := by rw [runV_step h, if_pos hf]
theorem runV_bad (h : code[i]? = some x) (hf : fuel ≠ some done.length) (h0 : (doP row x s).1 ≠ 0) : runV code row fuel i done s = ⟨(doP row x s).1, done, noVal⟩ := by rw [runV_step h, if_neg hf, if_pos h0]
theorem runV_go (h : code[i]? = some x) (hf : fuel ≠ some done.length) (h0 : (doP row x s).1 = 0) : runV code row fuel i done s = runV code row fuel (i + 1 + (doP row x s).2.2) (done ++ [i]) (doP row x s).2.1 := by rw [runV_step h, if_neg hf, if_neg (by simpa using h0)]
end
/-- Running is by induction on how much is left. -/
theorem run_ind {code : List Ins} {row : List Val} {P : Nat → List Nat → List Val → Prop} (hend : ∀ i done s, code.length ≤ i → P i done s)
    (hstep : ∀ i done s x, code[i]? = some x → ((doP row x s).1 = 0 → P (i + 1 + (doP row x s).2.2) (done ++ [i]) (doP row x s).2.1) → P i done s) (i : Nat) (done : List Nat) (s : List Val) : P i done s := by
  suffices h : ∀ m i done s, code.length - i ≤ m → P i done s from h _ i done s (Nat.le_refl _)
  intro m
  induction m with
  | zero => intro i done s h; exact hend i done s (by omega)
  | succ m ih =>
    intro i done s h
    by_cases hi : i < code.length
    · exact hstep i done s _ (List.getElem?_eq_getElem hi) (fun _ => ih _ _ _ (by omega))
    · exact hend i done s (by omega)
/-- How many are done, and that they rise. -/
theorem run_done {code : List Ins} {row : List Val} {fuel : Option Nat} (i : Nat) (done : List Nat) (s : List Val) :
    ∃ l, (runV code row fuel i done s).done = done ++ l ∧ l.length ≤ code.length - i ∧ l.Pairwise (· < ·) ∧ (∀ a ∈ l, i ≤ a ∧ a < code.length) := by
  refine run_ind (code := code) (row := row) (P := fun i done s => ∃ l, (runV code row fuel i done s).done = done ++ l ∧ l.length ≤ code.length - i ∧ l.Pairwise (· < ·) ∧ (∀ a ∈ l, i ≤ a ∧ a < code.length)) ?_ ?_ i done s
  · intro i done s h
    exact ⟨[], by rw [runV_end h]; simp, by simp, List.Pairwise.nil, by simp⟩
  · intro i done s x hx ih
    have hi := (List.getElem?_eq_some_iff.1 hx).1
    rw [runV_step hx]
    split
    · exact ⟨[], by simp, by simp, List.Pairwise.nil, by simp⟩
    · split
      · exact ⟨[], by simp, by simp, List.Pairwise.nil, by simp⟩
      · rename_i h0
        obtain ⟨l, h1, h2, h3, h4⟩ := ih (by simpa using h0)
        refine ⟨i :: l, by rw [h1]; simp, by rw [List.length_cons]; omega, List.Pairwise.cons (fun a ha => by have := (h4 a ha).1; omega) h3, ?_⟩
        intro a ha
        rcases List.mem_cons.1 ha with rfl | ha
        · exact ⟨Nat.le_refl _, hi⟩
        · exact ⟨by have := (h4 a ha).1; omega, (h4 a ha).2⟩
/-- Fuel is steps. -/
theorem run_fuel {code : List Ins} {row : List Val} (F : Nat) (i : Nat) (done : List Nat) (s : List Val) (hd : done.length ≤ F) :
    runV code row (some F) i done s = if (runV code row none i done s).done.length < F ∨ ((runV code row none i done s).done.length = F ∧ (runV code row none i done s).err = 0 ∧ True) then runV code row none i done s else ⟨10, (runV code row none i done s).done.take F, noVal⟩ := by
  revert hd
  refine run_ind (code := code) (row := row) (P := fun i done s => done.length ≤ F → runV code row (some F) i done s = if (runV code row none i done s).done.length < F ∨ ((runV code row none i done s).done.length = F ∧ (runV code row none i done s).err = 0 ∧ True) then runV code row none i done s else ⟨10, (runV code row none i done s).done.take F, noVal⟩) ?_ ?_ i done s
  · intro i done s h hd
    rw [runV_end h, runV_end h, if_pos]
    by_cases hF : done.length < F
    · exact Or.inl hF
    · exact Or.inr ⟨Nat.le_antisymm hd (Nat.le_of_not_lt hF), rfl, trivial⟩
  · intro i done s x hx ih hd
    have hn : (none : Option Nat) ≠ some done.length := by simp
    by_cases h0 : (doP row x s).1 = 0
    · rw [runV_go (fuel := none) hx hn h0]
      by_cases hF : F = done.length
      · subst hF
        rw [runV_out hx rfl]
        obtain ⟨l, h1, -, -, -⟩ := run_done (code := code) (row := row) (fuel := none) (i + 1 + (doP row x s).2.2) (done ++ [i]) (doP row x s).2.1
        have hl : (runV code row none (i + 1 + (doP row x s).2.2) (done ++ [i]) (doP row x s).2.1).done.length = done.length + 1 + l.length := by rw [h1]; simp; omega
        rw [if_neg (by omega), h1]
        simp
      · rw [runV_go (fuel := some F) hx (by intro h; injection h with h; exact hF h) h0]
        exact ih h0 (by rw [List.length_append]; show done.length + 1 ≤ F; omega)
    · rw [runV_bad (fuel := none) hx hn h0]
      by_cases hF : F = done.length
      · subst hF
        rw [runV_out hx rfl, if_neg]
        · simp
        · intro h
          rcases h with h | h
          · exact absurd h (Nat.lt_irrefl _)
          · exact h0 h.2.1
      · rw [runV_bad (fuel := some F) hx (by intro h; injection h with h; exact hF h) h0, if_pos (Or.inl (show done.length < F by omega))]

/-- What verify found of sound code: ahead of each instruction, and behind it. -/
structure Snd (code : List Ins) (cols : List Col) (st : Sts) (t : Int) : Prop where
  start : st.getD 0 none = some []
  at_ : ∀ i x, code[i]? = some x → ∃ l, st.getD i none = some l ∧ argErr code.length i cols.length x = 0 ∧ (actP cols x l).1 = 0 ∧
    ((x.what = 4 ∨ x.what = 5) → st.getD (i + 1 + x.arg.toNat) none = some (actP cols x l).2) ∧ (x.what ≠ 4 → st.getD (i + 1) none = some (actP cols x l).2)
  stop : st.getD code.length none = some [t]
  small : Small64 st
theorem reachP_keep {st : Sts} {i j : Nat} {l m : List Int} (h : st.getD j none = some m) : (reachP st i l).2.getD j none = some m := by
  unfold reachP
  cases hi : st.getD i none with
  | none =>
    show (st.set i (some l)).getD j none = some m
    have hij : i ≠ j := fun e => by subst e; rw [h] at hi; cases hi
    rw [List.getD_eq_getElem?_getD, List.getElem?_set_ne hij, ← List.getD_eq_getElem?_getD]; exact h
  | some k => exact h
theorem reachP_has {st : Sts} {i : Nat} {l : List Int} (hi : i < st.length) (h : (reachP st i l).1 = 0) : (reachP st i l).2.getD i none = some l := by
  unfold reachP at h ⊢
  cases hs : st.getD i none with
  | none => exact getD_set hi
  | some k =>
    rw [hs] at h
    have h : (if k = l then (0 : Int) else 3) = 0 := h
    by_cases hk : k = l
    · subst hk; exact hs
    · rw [if_neg hk] at h; exact absurd h (by decide)
theorem stepP_keep {cols : List Col} {len i j : Nat} {x : Ins} {st : Sts} {most : Nat} {m : List Int} (h : st.getD j none = some m) : (stepP cols len i x st most).2.1.getD j none = some m := by
  unfold stepP
  split
  · exact h
  · split
    · exact h
    · split
      · exact h
      · split
        · exact reachP_keep h
        · split
          · split
            · exact reachP_keep h
            · exact reachP_keep (reachP_keep h)
          · exact reachP_keep h
theorem stepP_has {cols : List Col} {len i : Nat} {x : Ins} {st : Sts} {most : Nat} (h : (stepP cols len i x st most).1 = 0) (hl : st.length = len + 1) (hi : i < len) :
    ∃ l, st.getD i none = some l ∧ argErr len i cols.length x = 0 ∧ (actP cols x l).1 = 0 ∧
      ((x.what = 4 ∨ x.what = 5) → (stepP cols len i x st most).2.1.getD (i + 1 + x.arg.toNat) none = some (actP cols x l).2) ∧ (x.what ≠ 4 → (stepP cols len i x st most).2.1.getD (i + 1) none = some (actP cols x l).2) := by
  cases hst : st.getD i none with
  | none =>
    have : stepP cols len i x st most = (5, st, most) := by unfold stepP; rw [hst]
    rw [this] at h
    exact absurd h (show ¬ (5 : Int) = 0 by decide)
  | some l =>
    by_cases ha : argErr len i cols.length x = 0
    · by_cases hc : (actP cols x l).1 = 0
      · refine ⟨l, rfl, ha, hc, ?_⟩
        by_cases h4 : x.what = 4
        · obtain ⟨a, ea, hia⟩ := arg_jump ha (Or.inl h4)
          rw [stepP_jump hst ha hc h4 ea] at h ⊢
          rw [ea, Int.toNat_natCast]
          exact ⟨fun _ => reachP_has (by omega) h, fun h => absurd h4 h⟩
        · by_cases h5 : x.what = 5
          · obtain ⟨a, ea, hia⟩ := arg_jump ha (Or.inr h5)
            by_cases hr : (reachP st (i + 1 + a) (actP cols x l).2).1 = 0
            · rw [stepP_else2 hst ha hc h5 ea hr] at h ⊢
              rw [ea, Int.toNat_natCast]
              exact ⟨fun _ => reachP_keep (reachP_has (by omega) hr), fun _ => reachP_has (by rw [reachP_len]; omega) h⟩
            · rw [stepP_else1 hst ha hc h5 ea hr] at h
              exact absurd h hr
          · rw [stepP_next hst ha hc h4 h5] at h ⊢
            exact ⟨fun h => by omega, fun _ => reachP_has (by omega) h⟩
      · rw [stepP_act hst ha hc] at h
        exact absurd h hc
    · rw [stepP_arg hst ha] at h
      exact absurd h ha
theorem runP_small {cols : List Col} {len : Nat} : ∀ {xs : List Ins} {i : Nat} {st : Sts} {most : Nat}, Small64 st → most ≤ 64 → Small64 (runP cols len i xs st most).2.2.1
  | [], i, st, most, h, _ => h
  | x :: xs, i, st, most, h, hm => by
    rw [runP]
    have hs := stepP_small (cols := cols) (len := len) (i := i) (x := x) h hm
    split
    · exact hs.1
    · exact runP_small hs.1 hs.2
theorem runP_snd {cols : List Col} {len : Nat} : ∀ {xs : List Ins} {i : Nat} {st : Sts} {most : Nat}, (runP cols len i xs st most).2.1 = 0 → st.length = len + 1 → i + xs.length = len →
    (∀ j m, st.getD j none = some m → (runP cols len i xs st most).2.2.1.getD j none = some m) ∧
    ∀ k x, xs[k]? = some x → ∃ l, (runP cols len i xs st most).2.2.1.getD (i + k) none = some l ∧ argErr len (i + k) cols.length x = 0 ∧ (actP cols x l).1 = 0 ∧
    ((x.what = 4 ∨ x.what = 5) → (runP cols len i xs st most).2.2.1.getD (i + k + 1 + x.arg.toNat) none = some (actP cols x l).2) ∧ (x.what ≠ 4 → (runP cols len i xs st most).2.2.1.getD (i + k + 1) none = some (actP cols x l).2)
  | [], i, st, most, _, _, _ => ⟨fun _ _ h => h, fun k x h => by simp at h⟩
  | x :: xs, i, st, most, h, hl, hi => by
    rw [List.length_cons] at hi
    by_cases hs : (stepP cols len i x st most).1 = 0
    · rw [runP, if_neg (by simpa using hs)] at h ⊢
      obtain ⟨h1, h2⟩ := runP_snd h (by rw [stepP_len]; exact hl) (by omega)
      refine ⟨fun j m hj => h1 j m (stepP_keep hj), fun k y hk => ?_⟩
      cases k with
      | zero =>
        simp only [List.getElem?_cons_zero, Option.some.injEq] at hk
        subst hk
        obtain ⟨l, q1, q2, q3, q4, q5⟩ := stepP_has hs hl (by omega)
        exact ⟨l, h1 _ _ (stepP_keep q1), q2, q3, fun hw => h1 _ _ (q4 hw), fun hw => h1 _ _ (q5 hw)⟩
      | succ k =>
        rw [List.getElem?_cons_succ] at hk
        have := h2 k y hk
        rw [show i + 1 + k = i + (k + 1) by omega] at this
        exact this
    · rw [runP, if_pos hs] at h
      exact absurd h hs
theorem startP_small (n : Nat) : Small64 (startP n) := by
  intro k l h
  rw [List.getD_eq_getElem?_getD] at h
  unfold startP at h
  cases k with
  | zero => simp at h; subst h; decide
  | succ k =>
    rw [List.getElem?_cons_succ, List.getElem?_replicate] at h
    split at h <;> simp at h
theorem snd_of {code : List Ins} {cols : List Col} (h : (verP code cols).err = 0) : code.length ≤ 1200 ∧ schemaErr cols = 0 ∧ ∃ st, Snd code cols st (verP code cols).ty := by
  obtain ⟨h1, h2, st, most, t, hr, hst, hend, hv⟩ := ver_sound h
  refine ⟨h1, h2, st, ?_⟩
  have hr1 : (runP cols code.length 0 code (startP code.length) 0).2.1 = 0 := by rw [hr]
  obtain ⟨k1, k2⟩ := runP_snd hr1 (startP_len _) (by omega)
  rw [hr] at k1 k2
  refine ⟨k1 0 [] rfl, fun i x hx => ?_, by rw [hv]; exact hend, ?_⟩
  · have := k2 i x hx
    rw [Nat.zero_add] at this
    exact this
  · have := runP_small (cols := cols) (len := code.length) (xs := code) (i := 0) (startP_small code.length) (show 0 ≤ 64 by decide)
    rw [hr] at this
    exact this

/-- A stack whose values are right, of the types l. -/
def StkOk (s : List Val) (l : List Int) : Prop := (∀ v ∈ s, right v) ∧ typesOf s = l
theorem StkOk.len {s : List Val} {l : List Int} (h : StkOk s l) : s.length = l.length := by rw [← h.2]; simp [typesOf]
theorem StkOk.app {s r : List Val} {l m : List Int} (h : StkOk s l) (k : StkOk r m) : StkOk (s ++ r) (l ++ m) :=
  ⟨fun v hv => (List.mem_append.1 hv).elim (h.1 v) (k.1 v), by unfold typesOf; rw [List.map_append]; exact congr (congrArg _ h.2) k.2⟩
theorem StkOk.take {s : List Val} {l : List Int} (h : StkOk s l) (n : Nat) : StkOk (s.take n) (l.take n) :=
  ⟨fun v hv => h.1 v (List.mem_of_mem_take hv), by rw [← h.2]; simp [typesOf, List.map_take]⟩
theorem StkOk.drop {s : List Val} {l : List Int} (h : StkOk s l) (n : Nat) : StkOk (s.drop n) (l.drop n) :=
  ⟨fun v hv => h.1 v (List.mem_of_mem_drop hv), by rw [← h.2]; simp [typesOf, List.map_drop]⟩
theorem StkOk.one {v : Val} (h : right v) : StkOk [v] [v.type] := ⟨fun u hu => by rw [List.mem_singleton.1 hu]; exact h, rfl⟩
theorem StkOk.top {s : List Val} {l : List Int} (h : StkOk s l) (hl : 1 ≤ l.length) : right (topV s) ∧ (topV s).type = (l.drop (l.length - 1)).headD 0 := by
  have h1 := h.drop (s.length - 1)
  rw [h.len] at h1
  have hlen := h.len
  unfold topV
  rw [hlen]
  have h2 : (s.drop (l.length - 1)).length = 1 := by rw [List.length_drop]; omega
  match hd : s.drop (l.length - 1), h2 with
  | [v], _ =>
    rw [hd] at h1
    refine ⟨h1.1 v (by simp), ?_⟩
    rw [← h1.2]; rfl
theorem opNm_isOp {k : Int} (h : opErr k = 0) : isOpB (opNm k) = true := by
  obtain ⟨j, rfl, h2, h3⟩ := opErr_nat h
  unfold opNm
  rw [if_pos h, Int.toNat_natCast]
  exact (by decide : ∀ j, j < 17 → isOpB (opsB.getD j ⟨#[]⟩) = true) j (by omega)
/-- What was laid on by an instruction, of what was taken off. -/
theorem actP_parts {cols : List Col} {x : Ins} {l : List Int} (h : (actP cols x l).1 = 0) :
    need x ≤ l.length ∧ (putTy cols x (l.drop (l.length - need x))).1 = 0 ∧ (actP cols x l).2 = l.take (l.length - need x) ++ (putTy cols x (l.drop (l.length - need x))).2 ∧ (actP cols x l).2.length ≤ 64 := by
  have h64 := actP_len h
  unfold actP at h
  by_cases h1 : l.length < need x
  · rw [if_pos h1] at h; exact absurd h (show ¬ (6 : Int) = 0 by decide)
  · rw [if_neg h1] at h
    by_cases h2 : (putTy cols x (l.drop (l.length - need x))).1 ≠ 0
    · rw [if_pos h2] at h; exact absurd h h2
    · rw [if_neg h2] at h
      by_cases h3 : 64 < (l.take (l.length - need x) ++ (putTy cols x (l.drop (l.length - need x))).2).length
      · rw [if_pos h3] at h; exact absurd h (show ¬ (4 : Int) = 0 by decide)
      · refine ⟨by omega, by simpa using h2, ?_, h64⟩
        unfold actP
        rw [if_neg h1, if_neg h2, if_neg h3]
/-- An instruction of sound code: the stack behind it has the types that verify said, or a number goes over. -/
theorem do_sound {cols : List Col} {row : List Val} {x : Ins} {s : List Val} {l : List Int} {len i : Nat} (hr : RowOk cols row) (hx : x.val.wf) (hs : StkOk s l) (ha : argErr len i cols.length x = 0) (hc : (actP cols x l).1 = 0) :
    ((doP row x s).1 = 0 ∧ StkOk (doP row x s).2.1 (actP cols x l).2 ∧ ((doP row x s).2.2 = 0 ∧ x.what ≠ 4 ∨ (x.what = 4 ∨ x.what = 5) ∧ (doP row x s).2.2 = x.arg.toNat)) ∨ (x.what = 3 ∧ (doP row x s).1 = 9) := by
  obtain ⟨p1, p2, p3, -⟩ := actP_parts hc
  rw [p3]
  have hlen := hs.len
  unfold argErr at ha
  unfold doP
  by_cases h1 : x.what = 1
  · rw [if_pos h1] at ha ⊢
    refine Or.inl ⟨rfl, ?_, Or.inl ⟨rfl, by omega⟩⟩
    have hn : need x = 0 := by unfold need; rw [if_neg (by omega), if_neg (by omega)]
    rw [hn, Nat.sub_zero, List.take_length]
    refine hs.app ?_
    unfold putTy
    rw [if_pos h1]
    exact StkOk.one ⟨hx, ha⟩
  rw [if_neg h1] at ha ⊢
  by_cases h2 : x.what = 2
  · rw [if_pos h2] at ha ⊢
    refine Or.inl ⟨rfl, ?_, Or.inl ⟨rfl, by omega⟩⟩
    have hn : need x = 0 := by unfold need; rw [if_neg (by omega), if_neg (by omega)]
    have ha2 : 0 ≤ x.arg ∧ x.arg < cols.length := by
      by_cases hh : 0 ≤ x.arg ∧ x.arg < cols.length
      · exact hh
      · rw [if_neg hh] at ha; exact absurd ha (by decide)
    rw [hn, Nat.sub_zero, List.take_length]
    refine hs.app ?_
    unfold putTy
    rw [if_neg h1, if_pos h2]
    have hc1 : x.arg.toNat < cols.length := by omega
    have hr1 : x.arg.toNat < row.length := by rw [hr.len]; exact hc1
    have e1 : cols[x.arg.toNat]? = some (cols[x.arg.toNat]'hc1) := List.getElem?_eq_getElem hc1
    have e2 : row[x.arg.toNat]? = some (row[x.arg.toNat]'hr1) := List.getElem?_eq_getElem hr1
    rw [List.getD_eq_getElem?_getD, List.getD_eq_getElem?_getD, e1, e2]
    have := StkOk.one (hr.ok _ (List.getElem_mem hr1))
    rw [hr.ty _ _ _ e1 e2] at this
    exact this
  rw [if_neg h2] at ha ⊢
  by_cases h3 : x.what = 3
  · rw [if_pos h3] at ha ⊢
    have hisop := opNm_isOp ha
    have hn : ((need x : Nat) : Int) = arityOf (opNm x.arg) := by
      unfold need
      rw [if_pos h3]
      rcases op_arity ha with e | e <;> rw [e] <;> rfl
    have hput : ruleErr (opNm x.arg) (l.drop (l.length - need x)) = 0 ∧ (putTy cols x (l.drop (l.length - need x))).2 = [ruleTy (opNm x.arg) (l.drop (l.length - need x))] := by
      unfold putTy at p2 ⊢
      rw [if_neg h1, if_neg h2, if_pos h3] at p2 ⊢
      by_cases hre : ruleErr (opNm x.arg) (l.drop (l.length - need x)) ≠ 0
      · rw [if_pos hre] at p2; exact absurd p2 (show ¬ (8 : Int) = 0 by decide)
      · rw [if_neg hre]; exact ⟨by simpa using hre, rfl⟩
    have hd := hs.drop (l.length - need x)
    obtain ⟨r1, r2, r3⟩ := ruleErr_parts hput.1
    rw [hput.2]
    rw [show s.length - need x = l.length - need x by rw [hlen]]
    have hsnd := apply_sound (s := opNm x.arg) (l := s.drop (l.length - need x)) hisop (by rw [hd.len]; exact r2) hd.1 (by rw [hd.2]; exact r3)
    rw [hd.2] at hsnd
    rcases hsnd with ⟨q1, q2, q3⟩ | ⟨q1, q2⟩
    · refine Or.inl ?_
      rw [if_neg (by simpa using q1)]
      refine ⟨rfl, (hs.take _).app ?_, Or.inl ⟨rfl, by omega⟩⟩
      have e : ruleTy (opNm x.arg) (l.drop (l.length - need x)) = (applyVal (opNm x.arg) (s.drop (l.length - need x))).type := by
        rw [q3]; unfold ruleTy; rw [if_pos hput.1]
      rw [e]
      exact StkOk.one q2
    · refine Or.inr ⟨h3, ?_⟩
      rw [if_pos (by rw [q1]; decide), q1]
  rw [if_neg h3] at ha ⊢
  by_cases h4 : x.what = 4
  · rw [if_pos h4]
    have hn : need x = 0 := by unfold need; rw [if_neg (by omega), if_neg (by omega)]
    refine Or.inl ⟨rfl, ?_, Or.inr ⟨Or.inl h4, rfl⟩⟩
    rw [hn, Nat.sub_zero, List.take_length]
    have : (putTy cols x (l.drop l.length)).2 = [] := by unfold putTy; rw [if_neg h1, if_neg h2, if_neg h3, if_neg (by omega), if_neg (by omega)]
    rw [this, List.append_nil]
    exact hs
  rw [if_neg h4]
  by_cases h5 : x.what = 5
  · rw [if_pos h5]
    have hn : need x = 1 := by unfold need; rw [if_neg (by omega), if_pos (by omega)]
    rw [hn] at p2 ⊢
    have : (putTy cols x (l.drop (l.length - 1))).2 = [] := by
      unfold putTy
      rw [if_neg h1, if_neg h2, if_neg h3, if_pos h5]
      split <;> rfl
    rw [this, List.append_nil, hlen]
    refine Or.inl ⟨rfl, hs.take _, ?_⟩
    by_cases h0 : (topV s).n = 0
    · rw [if_pos h0]; exact Or.inr ⟨Or.inr h5, rfl⟩
    · rw [if_neg h0]; exact Or.inl ⟨rfl, by omega⟩
  rw [if_neg h5]
  by_cases h6 : x.what = 6
  · rw [if_pos h6]
    have hn : need x = 1 := by unfold need; rw [if_neg (by omega), if_pos (by omega)]
    rw [hn] at p1 ⊢
    obtain ⟨t1, t2⟩ := hs.top p1
    have e : (putTy cols x (l.drop (l.length - 1))).2 = [(topV s).type] ++ [(topV s).type] := by
      unfold putTy
      rw [if_neg h1, if_neg h2, if_neg h3, if_neg h5, if_pos h6, t2]
      rfl
    refine Or.inl ⟨rfl, ?_, Or.inl ⟨rfl, by omega⟩⟩
    rw [e, ← List.append_assoc]
    refine StkOk.app ?_ (StkOk.one t1)
    have hd := hs.drop (l.length - 1)
    have hl1 : (l.drop (l.length - 1)) = [(topV s).type] := by
      rw [t2]
      have : (l.drop (l.length - 1)).length = 1 := by rw [List.length_drop]; omega
      match hh : l.drop (l.length - 1), this with
      | [a], _ => rfl
    rw [← hl1, List.take_append_drop]
    exact hs
  rw [if_neg h6]
  by_cases h7 : x.what = 7
  · rw [if_pos h7]
    have hn : need x = 1 := by unfold need; rw [if_neg (by omega), if_pos (by omega)]
    rw [hn]
    have : (putTy cols x (l.drop (l.length - 1))).2 = [] := by
      unfold putTy
      rw [if_neg h1, if_neg h2, if_neg h3, if_neg h5, if_neg h6]
    rw [this, List.append_nil, hlen]
    exact Or.inl ⟨rfl, hs.take _, Or.inl ⟨rfl, by omega⟩⟩
  · rw [if_neg (by omega), if_neg (by omega)] at ha
    exact absurd ha (by decide)
/-- Sound code on a right row, from a place whose types are known. -/
theorem run_sound {code : List Ins} {cols : List Col} {row : List Val} {st : Sts} {t : Int} (hS : Snd code cols st t) (hr : RowOk cols row) (hx : ∀ x ∈ code, x.val.wf) (fuel : Option Nat) (i : Nat) (done : List Nat) (s : List Val)
    (hi : i ≤ code.length) {l : List Int} (hl : st.getD i none = some l) (hs : StkOk s l) :
    ((runV code row fuel i done s).err = 0 ∧ right (runV code row fuel i done s).val ∧ (runV code row fuel i done s).val.type = t) ∨ ((runV code row fuel i done s).val = noVal ∧ ((runV code row fuel i done s).err = 9 ∨ fuel ≠ none ∧ (runV code row fuel i done s).err = 10)) := by
  revert l
  revert hi
  refine run_ind (code := code) (row := row) (P := fun i done s => i ≤ code.length → ∀ {l : List Int}, st.getD i none = some l → StkOk s l →
    ((runV code row fuel i done s).err = 0 ∧ right (runV code row fuel i done s).val ∧ (runV code row fuel i done s).val.type = t) ∨ ((runV code row fuel i done s).val = noVal ∧ ((runV code row fuel i done s).err = 9 ∨ fuel ≠ none ∧ (runV code row fuel i done s).err = 10))) ?_ ?_ i done s
  · intro i done s h hi l hl hs
    obtain rfl : i = code.length := by omega
    rw [runV_end h]
    rw [hS.stop] at hl
    injection hl with hl
    subst hl
    have hlen := hs.len
    match s, hlen with
    | [v], _ =>
      refine Or.inl ⟨rfl, hs.1 v (by simp), ?_⟩
      have := hs.2
      injection this
  · intro i done s x hx' ih hi l hl hs
    obtain ⟨m, h1, h2, h3, h4, h5⟩ := hS.at_ i x hx'
    rw [hl] at h1
    injection h1 with h1
    subst h1
    rw [runV_step hx']
    by_cases hf : fuel = some done.length
    · rw [if_pos hf]
      exact Or.inr ⟨rfl, Or.inr ⟨by rw [hf]; simp, rfl⟩⟩
    rw [if_neg hf]
    rcases do_sound hr (hx x (List.mem_of_getElem? hx')) hs h2 h3 with ⟨q1, q2, q3⟩ | ⟨q1, q2⟩
    · rw [if_neg (by simpa using q1)]
      rcases q3 with ⟨q3, q4⟩ | ⟨q3, q4⟩
      · have := ih q1
        rw [q3] at this ⊢
        have hlt := (List.getElem?_eq_some_iff.1 hx').1
        exact this (by omega) (h5 q4) q2
      · have := ih q1
        rw [q4] at this ⊢
        obtain ⟨a, ea, hia⟩ := arg_jump h2 q3
        exact this (by rw [ea, Int.toNat_natCast]; omega) (h4 q3) q2
    · rw [if_pos (by rw [q2]; decide)]
      exact Or.inr ⟨rfl, Or.inl q2⟩
end Go.Proofs.YthmbafkedgahaaaDoor
