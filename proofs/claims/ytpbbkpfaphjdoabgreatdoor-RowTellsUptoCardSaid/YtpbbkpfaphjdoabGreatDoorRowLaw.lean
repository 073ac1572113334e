/- Rows as text and back, plain: a text cut at each comma that is in no quote; what is shown is read as it was; what is read is shown as it was. -/
import Derived.Test.YtpbbkpfaphjdoabGreatDoorNumLaw
import Derived.Lib.Join
namespace Go.Proofs.YtpbbkpfaphjdoabGreatDoor

/-- A text cut at each comma that is in no quote; what stands ahead of it, and whether that is in a quote. -/
def cutF (inq : Bool) (cur : List UInt8) : List UInt8 → List (List UInt8)
  | [] => [cur]
  | b :: r => if b = 39 then cutF (!inq) (cur ++ [b]) r else if b = 44 ∧ inq = false then cur :: cutF inq [] r else cutF inq (cur ++ [b]) r
def cutR (l : List UInt8) : List (List UInt8) := cutF false [] l
/-- Is no comma out of a quote? In a quote at the end? -/
def scanQ (inq : Bool) : List UInt8 → Option Bool
  | [] => some inq
  | b :: r => if b = 39 then scanQ (!inq) r else if b = 44 ∧ inq = false then none else scanQ inq r
theorem cutF_app : ∀ (t rest cur : List UInt8) (q q' : Bool), scanQ q t = some q' → cutF q cur (t ++ rest) = cutF q' (cur ++ t) rest
  | [], rest, cur, q, q', h => by
    injection h with h
    subst h
    rw [List.append_nil]; rfl
  | b :: t, rest, cur, q, q', h => by
    rw [scanQ] at h
    rw [List.cons_append, cutF]
    by_cases h39 : b = 39
    · rw [if_pos h39] at h ⊢
      rw [cutF_app t rest _ _ _ h]; simp
    · rw [if_neg h39] at h ⊢
      by_cases h44 : b = 44 ∧ q = false
      · rw [if_pos h44] at h; cases h
      · rw [if_neg h44] at h ⊢
        rw [cutF_app t rest _ _ _ h]; simp
theorem cutF_join : ∀ (r : List (List UInt8)) (x cur : List UInt8), scanQ false x = some false → (∀ y ∈ r, scanQ false y = some false) → cutF false cur (x ++ Lib.joinTail [44] r) = (cur ++ x) :: r
  | [], x, cur, hx, _ => by
    have := cutF_app x [] cur false false hx
    rw [show Lib.joinTail [44] [] = [] from rfl, this]; rfl
  | y :: r, x, cur, hx, hr => by
    have h1 : Lib.joinTail [44] (y :: r) = 44 :: (y ++ Lib.joinTail [44] r) := by simp [Lib.joinTail]
    rw [h1, cutF_app x _ cur false false hx, cutF, if_neg (by decide), if_pos ⟨rfl, rfl⟩, cutF_join r y [] (hr y (by simp)) (fun z hz => hr z (List.mem_cons_of_mem _ hz))]
    rfl
theorem cut_join {l : List (List UInt8)} (hn : l ≠ []) (h : ∀ y ∈ l, scanQ false y = some false) : cutR (Lib.join l [44]) = l := by
  cases l with
  | nil => exact (hn rfl).elim
  | cons x r =>
    rw [Lib.join_cons]
    exact cutF_join r x [] (h x (by simp)) (fun y hy => h y (List.mem_cons_of_mem _ hy))
theorem cutF_back : ∀ (l cur : List UInt8) (q : Bool), Lib.join (cutF q cur l) [44] = cur ++ l ∧ cutF q cur l ≠ []
  | [], cur, q => by rw [cutF, Lib.join_one, List.append_nil]; exact ⟨rfl, by simp⟩
  | b :: l, cur, q => by
    rw [cutF]
    by_cases h39 : b = 39
    · rw [if_pos h39]
      obtain ⟨h1, h2⟩ := cutF_back l (cur ++ [b]) (!q)
      exact ⟨by rw [h1]; simp, h2⟩
    · rw [if_neg h39]
      by_cases h44 : b = 44 ∧ q = false
      · rw [if_pos h44]
        obtain ⟨h1, h2⟩ := cutF_back l [] q
        refine ⟨?_, by simp⟩
        cases hc : cutF q [] l with
        | nil => exact (h2 hc).elim
        | cons x r =>
          rw [hc, Lib.join_cons] at h1
          rw [Lib.join_cons, h44.1]
          have : Lib.joinTail [44] (x :: r) = 44 :: (x ++ Lib.joinTail [44] r) := by simp [Lib.joinTail]
          rw [this, h1]; rfl
      · rw [if_neg h44]
        obtain ⟨h1, h2⟩ := cutF_back l (cur ++ [b]) q
        exact ⟨by rw [h1]; simp, h2⟩
theorem scan_plain : ∀ {l : List UInt8}, (∀ b ∈ l, b ≠ 39 ∧ b ≠ 44) → ∀ q, scanQ q l = some q
  | [], _, q => rfl
  | b :: l, h, q => by
    obtain ⟨h1, h2⟩ := h b (by simp)
    rw [scanQ, if_neg h1, if_neg (fun e => h2 e.1)]
    exact scan_plain (fun x hx => h x (List.mem_cons_of_mem _ hx)) q
theorem scan_dbl : ∀ (s rest : List UInt8), scanQ true (dblQ s ++ rest) = scanQ true rest
  | [], rest => rfl
  | b :: s, rest => by
    rw [dblQ]
    by_cases h : b = 39
    · rw [if_pos h]
      show scanQ true (39 :: 39 :: (dblQ s ++ rest)) = _
      rw [scanQ, if_pos rfl, scanQ, if_pos rfl]
      exact scan_dbl s rest
    · rw [if_neg h, List.cons_append, scanQ, if_neg h, if_neg (by simp)]
      exact scan_dbl s rest
theorem dec_bytes {n : Nat} {b : UInt8} (h : b ∈ Lib.decDigits n) : b ≠ 39 ∧ b ≠ 44 := by
  obtain ⟨_, h2, _, _⟩ := dec_back n n (Nat.le_refl _)
  have hd : isD b = true := List.all_eq_true.1 h2 b h
  refine ⟨?_, ?_⟩ <;> (intro e; subst e; exact absurd hd (by decide))
theorem scan_val {v : Val} (hn : fitsN v.n) : scanQ false (valText v) = some false := by
  unfold valText
  split
  · apply scan_plain
    intro b hb
    rcases fits_cases hn with ⟨m, h, _⟩ | ⟨m, h, hm, _⟩
    · rw [h, itoa_pos] at hb; exact dec_bytes hb
    · rw [h, itoa_minus hm] at hb
      rcases List.mem_cons.1 hb with rfl | hb
      · decide
      · exact dec_bytes hb
  split
  · split <;> exact scan_plain (by decide) false
  · rw [scanQ, if_pos rfl]
    show scanQ true (dblQ _ ++ [39]) = _
    rw [scan_dbl]; rfl
/-- Values as text. -/
def rowText (l : List Val) : List UInt8 := Lib.join (l.map valText) [44]
/-- The fault of values that are shown. -/
def rowPErr (l : List Val) : Int := if 6 < l.length then 4 else match l.find? (fun v => decide (vcheck v ≠ 0)) with | some v => vcheck v | none => 0
/-- A text as values; the fault. -/
def readRow (l : List UInt8) : List Val × Int :=
  if l = [] then ([], 0)
  else if (cutR l).any (fun p => decide ((readP p).2 = 2)) = true then ([], 2)
  else if (cutR l).any (fun p => decide ((readP p).2 ≠ 0)) = true ∨ 6 < (cutR l).length then ([], 4)
  else ((cutR l).map fun p => (readP p).1, 0)
theorem valText_ne {v : Val} (hn : fitsN v.n) : valText v ≠ [] := by
  unfold valText
  split
  · obtain ⟨c, r, h, _⟩ := itoa_head hn
    rw [h]; simp
  split
  · split <;> simp
  · simp
theorem rowPErr_zero {l : List Val} (h : rowPErr l = 0) : l.length ≤ 6 ∧ ∀ v ∈ l, vcheck v = 0 := by
  unfold rowPErr at h
  split at h
  · omega
  · rename_i h6
    refine ⟨by omega, fun v hv => ?_⟩
    cases hf : l.find? (fun v => decide (vcheck v ≠ 0)) with
    | none => have := List.find?_eq_none.1 hf v hv; simpa using this
    | some u => rw [hf] at h; have := List.find?_some hf; simp at this; exact (this h).elim
/-- WHAT IS SHOWN IS READ AS IT WAS. -/
theorem row_back {l : List Val} (hn : ∀ v ∈ l, fitsN v.n) (h : rowPErr l = 0) : readRow (rowText l) = (l, 0) := by
  obtain ⟨h6, hv⟩ := rowPErr_zero h
  cases l with
  | nil => rfl
  | cons x r =>
    have hne : rowText (x :: r) ≠ [] := by
      unfold rowText
      rw [List.map_cons, Lib.join_cons]
      intro e
      exact valText_ne (hn x (by simp)) (List.append_eq_nil_iff.1 e).1
    have hc : cutR (rowText (x :: r)) = (x :: r).map valText := cut_join (by simp) (fun y hy => by
      obtain ⟨v, h1, rfl⟩ := List.mem_map.1 hy
      exact scan_val (hn v h1))
    have hr : ∀ v ∈ x :: r, readP (valText v) = (v, 0) := fun v h1 => read_show (hn v h1) (hv v h1)
    have ha : ∀ p : List UInt8 → Bool, (∀ v ∈ x :: r, p (valText v) = false) → ((x :: r).map valText).any p = false := by
      intro p hp
      rw [List.any_map, List.any_eq_false]
      intro v h1
      simp [hp v h1]
    unfold readRow
    rw [if_neg hne, hc, ha _ (fun v h1 => by rw [hr v h1]; rfl), if_neg (by decide), ha _ (fun v h1 => by rw [hr v h1]; rfl), if_neg (by simp at h6 ⊢; omega), List.map_map]
    congr 1
    conv => rhs; rw [← List.map_id (x :: r)]
    exact List.map_congr_left (fun v h1 => by show (readP (valText v)).1 = v; rw [hr v h1])
/-- WHAT IS READ IS SHOWN AS IT WAS. -/
theorem row_again {l : List UInt8} {row : List Val} (h : readRow l = (row, 0)) : rowPErr row = 0 ∧ rowText row = l ∧ ∀ v ∈ row, fitsN v.n ∧ fitsN v.type := by
  unfold readRow at h
  split at h
  · rename_i h0
    injection h with h _
    subst h h0
    exact ⟨rfl, rfl, fun v hv => by cases hv⟩
  split at h
  · injection h with _ h; omega
  rename_i h2
  split at h
  · injection h with _ h; omega
  rename_i h4
  simp only [not_or] at h4
  obtain ⟨h4, h6⟩ := h4
  injection h with h _
  subst h
  have hp : ∀ p ∈ cutR l, readP p = ((readP p).1, 0) := by
    intro p hp
    have := List.any_eq_false.1 (by simpa using h4 : (cutR l).any (fun p => decide ((readP p).2 ≠ 0)) = false) p hp
    have h0 : (readP p).2 = 0 := by simpa using this
    rw [← h0]
  have hs := fun p (h : p ∈ cutR l) => show_read (hp p h)
  refine ⟨?_, ?_, ?_⟩
  · unfold rowPErr
    rw [List.length_map, if_neg h6, List.find?_eq_none.2 (fun v hv => by
      obtain ⟨p, h1, rfl⟩ := List.mem_map.1 hv
      simp [(hs p h1).1])]
  · unfold rowText
    rw [List.map_map]
    have : (cutR l).map (valText ∘ fun p => (readP p).1) = cutR l := by
      conv => rhs; rw [← List.map_id (cutR l)]
      exact List.map_congr_left (fun p h1 => (hs p h1).2.1)
    rw [this]
    exact (cutF_back l [] false).1
  · intro v hv
    obtain ⟨p, h1, rfl⟩ := List.mem_map.1 hv
    exact ⟨(hs p h1).2.2.1, (hs p h1).2.2.2⟩
end Go.Proofs.YtpbbkpfaphjdoabGreatDoor
