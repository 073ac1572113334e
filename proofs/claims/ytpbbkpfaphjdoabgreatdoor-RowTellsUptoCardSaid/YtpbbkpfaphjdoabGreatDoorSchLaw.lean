/- Schemas as text and back, plain: what is shown is read as it was; what is read is shown as it was. -/
import Derived.Test.YtpbbkpfaphjdoabGreatDoorRowLaw
import Derived.Test.YtpbbkpfaphjdoabGreatDoorSchema
import Derived.Test.YtpbbkpfaphjdoabGreatDoorRowCheck
import Derived.Test.YtpbbkpfaphjdoabGreatDoorArity
import Derived.Lib.SplitLaws
namespace Go.Proofs.YtpbbkpfaphjdoabGreatDoor

/-- A text cut at each byte c; what stands ahead of it. -/
def cutG (c : UInt8) (cur : List UInt8) : List UInt8 → List (List UInt8)
  | [] => [cur]
  | b :: r => if b = c then cur :: cutG c [] r else cutG c (cur ++ [b]) r
def cutC (c : UInt8) (l : List UInt8) : List (List UInt8) := cutG c [] l
/-- The first one of texts with more ahead of it. -/
def onHead (p : List UInt8) : List (List UInt8) → List (List UInt8)
  | [] => []
  | x :: t => (p ++ x) :: t
theorem cutG_ne (c : UInt8) : ∀ (l cur : List UInt8), cutG c cur l ≠ []
  | [], cur => by simp [cutG]
  | b :: l, cur => by
    rw [cutG]
    split
    · simp
    · exact cutG_ne c l _
theorem cutG_head (c : UInt8) : ∀ (l cur : List UInt8), cutG c cur l = onHead cur (cutG c [] l)
  | [], cur => by simp [cutG, onHead]
  | b :: l, cur => by
    rw [cutG, cutG]
    by_cases h : b = c
    · rw [if_pos h, if_pos h]; simp [onHead]
    · rw [if_neg h, if_neg h, cutG_head c l (cur ++ [b]), cutG_head c l ([] ++ [b])]
      cases hc : cutG c [] l with
      | nil => exact (cutG_ne c l [] hc).elim
      | cons x t => simp [onHead]
theorem cutG_app (c : UInt8) : ∀ (t rest cur : List UInt8), c ∉ t → cutG c cur (t ++ rest) = cutG c (cur ++ t) rest
  | [], rest, cur, _ => by simp
  | b :: t, rest, cur, h => by
    simp only [List.mem_cons, not_or] at h
    rw [List.cons_append, cutG, if_neg (fun e => h.1 e.symm), cutG_app c t rest _ h.2]
    simp
theorem cutG_none {c : UInt8} {t : List UInt8} (h : c ∉ t) (cur : List UInt8) : cutG c cur t = [cur ++ t] := by
  have := cutG_app c t [] cur h
  rw [List.append_nil] at this
  rw [this, cutG]
theorem cutG_hit {c : UInt8} {t : List UInt8} (h : c ∉ t) (rest : List UInt8) : cutC c (t ++ c :: rest) = t :: cutC c rest := by
  unfold cutC
  rw [cutG_app c t (c :: rest) [] h, cutG, if_pos rfl]; simp
theorem cutG_mem (c : UInt8) : ∀ (l cur : List UInt8), c ∉ cur → ∀ p ∈ cutG c cur l, c ∉ p
  | [], cur, hc, p, hp => by simp [cutG] at hp; rw [hp]; exact hc
  | b :: l, cur, hc, p, hp => by
    rw [cutG] at hp
    by_cases h : b = c
    · rw [if_pos h] at hp
      rcases List.mem_cons.1 hp with rfl | hp
      · exact hc
      · exact cutG_mem c l [] (by simp) p hp
    · rw [if_neg h] at hp
      exact cutG_mem c l _ (by simp; exact ⟨hc, fun e => h e.symm⟩) p hp
theorem cutG_join (c : UInt8) : ∀ (r : List (List UInt8)) (x : List UInt8), c ∉ x → (∀ y ∈ r, c ∉ y) → cutC c (x ++ Lib.joinTail [c] r) = x :: r
  | [], x, hx, _ => by
    rw [show Lib.joinTail [c] [] = [] from rfl, List.append_nil]
    unfold cutC
    rw [cutG_none hx]; rfl
  | y :: r, x, hx, hr => by
    have h1 : Lib.joinTail [c] (y :: r) = c :: (y ++ Lib.joinTail [c] r) := by simp [Lib.joinTail]
    rw [h1, cutG_hit hx, cutG_join c r y (hr y (by simp)) (fun z hz => hr z (List.mem_cons_of_mem _ hz))]
theorem cutC_join {c : UInt8} {l : List (List UInt8)} (hn : l ≠ []) (h : ∀ y ∈ l, c ∉ y) : cutC c (Lib.join l [c]) = l := by
  cases l with
  | nil => exact (hn rfl).elim
  | cons x r =>
    rw [Lib.join_cons]
    exact cutG_join c r x (h x (by simp)) (fun y hy => h y (List.mem_cons_of_mem _ hy))
theorem cutG_back (c : UInt8) : ∀ (l cur : List UInt8), Lib.join (cutG c cur l) [c] = cur ++ l
  | [], cur => by rw [cutG, Lib.join_one, List.append_nil]
  | b :: l, cur => by
    rw [cutG]
    by_cases h : b = c
    · rw [if_pos h]
      have h1 := cutG_back c l []
      cases hc : cutG c [] l with
      | nil => exact (cutG_ne c l [] hc).elim
      | cons x r =>
        rw [hc, Lib.join_cons] at h1
        rw [Lib.join_cons, h]
        have : Lib.joinTail [c] (x :: r) = c :: (x ++ Lib.joinTail [c] r) := by simp [Lib.joinTail]
        rw [this, h1]; rfl
    · rw [if_neg h, cutG_back c l (cur ++ [b])]; simp
theorem cutG_count (c : UInt8) : ∀ (l cur : List UInt8), (cutG c cur l).length ≤ l.length + 1
  | [], cur => by rw [cutG]; simp
  | b :: l, cur => by
    rw [cutG]
    have h1 := cutG_count c l (cur ++ [b])
    have h2 := cutG_count c l []
    split
    · simp; omega
    · simp; omega
theorem cutG_len (c : UInt8) : ∀ (l cur : List UInt8), ∀ p ∈ cutG c cur l, p.length ≤ cur.length + l.length
  | [], cur, p, hp => by simp [cutG] at hp; rw [hp]; simp
  | b :: l, cur, p, hp => by
    rw [cutG] at hp
    by_cases h : b = c
    · rw [if_pos h] at hp
      rcases List.mem_cons.1 hp with rfl | hp
      · omega
      · have := cutG_len c l [] p hp; simp at this ⊢; omega
    · rw [if_neg h] at hp
      have := cutG_len c l _ p hp; simp at this ⊢; omega

/-! ### the library's words for it -/
theorem index_ne (b c : UInt8) (l : List UInt8) (h : b ≠ c) : Lib.index (b :: l) [c] = if Lib.index l [c] == -1 then -1 else Lib.index l [c] + 1 := by
  have hp : ([c] : List UInt8).isPrefixOf (b :: l) = false := by simp [List.isPrefixOf, Ne.symm h]
  rw [Lib.index, hp]; simp
theorem index_eq (c : UInt8) (l : List UInt8) : Lib.index (c :: l) [c] = 0 := by rw [Lib.index]; simp [List.isPrefixOf]
theorem split_ne (c b : UInt8) (h : b ≠ c) : ∀ (k : Nat) (l : List UInt8), Lib.splitK [c] 0 k (b :: l) = onHead [b] (Lib.splitK [c] 0 k l)
  | 0, l => rfl
  | k + 1, l => by
    rw [Lib.splitK, Lib.splitK, index_ne b c l h]
    by_cases hm : Lib.index l [c] = -1
    · rw [if_pos (beq_iff_eq.2 hm), if_pos (by decide), if_pos (beq_iff_eq.2 hm)]; rfl
    · have hge := Lib.index_ge l [c]
      obtain ⟨j, hj⟩ : ∃ j : Nat, Lib.index l [c] = j := ⟨(Lib.index l [c]).toNat, by omega⟩
      rw [if_neg (fun e => hm (beq_iff_eq.1 e)), if_neg (by rw [hj, beq_iff_eq]; omega), if_neg (fun e => hm (beq_iff_eq.1 e)), hj]
      have e1 : ((j : Int) + 1).toNat = j + 1 := by omega
      have e2 : ((j : Int)).toNat = j := by omega
      rw [e1, e2]
      simp [onHead]
theorem split_eq (c : UInt8) : ∀ l : List UInt8, Lib.split l [c] = cutC c l
  | [] => by unfold Lib.split; rw [Lib.count_one]; rfl
  | b :: l => by
    have ih := split_eq c l
    unfold Lib.split at ih ⊢
    by_cases h : b = c
    · subst h
      rw [Lib.count_cons_eq, Nat.add_comm 1, Lib.splitK, index_eq]
      show [] :: Lib.splitK [b] 0 (Lib.count l [b]) l = _
      rw [ih]
      unfold cutC
      rw [cutG, if_pos rfl]
    · rw [Lib.count_cons_ne b c l h, split_ne c b h, ih]
      unfold cutC
      rw [cutG, if_neg h, cutG_head c l ([] ++ [b])]; rfl
theorem cut_of : ∀ (c : UInt8) (l : List UInt8), ((Lib.cut l [c]).2.2 = false ∧ c ∉ l) ∨ ((Lib.cut l [c]).2.2 = true ∧ c ∉ (Lib.cut l [c]).1 ∧ l = (Lib.cut l [c]).1 ++ c :: (Lib.cut l [c]).2.1)
  | c, [] => Or.inl ⟨rfl, by simp⟩
  | c, b :: l => by
    by_cases h : b = c
    · subst h
      refine Or.inr ?_
      unfold Lib.cut
      rw [index_eq]
      exact ⟨rfl, by simp, rfl⟩
    · rcases cut_of c l with ⟨h1, h2⟩ | ⟨h1, h2, h3⟩
      · left
        unfold Lib.cut at h1 ⊢
        rw [index_ne b c l h]
        have hge := Lib.index_ge l [c]
        by_cases hm : Lib.index l [c] = -1
        · rw [if_pos (beq_iff_eq.2 hm), if_neg (by decide)]
          exact ⟨rfl, by simp; exact ⟨fun e => h e.symm, h2⟩⟩
        · rw [if_pos (by omega)] at h1; cases h1
      · right
        unfold Lib.cut at h1 h2 h3 ⊢
        have hge := Lib.index_ge l [c]
        by_cases hm : Lib.index l [c] = -1
        · rw [hm, if_neg (by decide)] at h1; cases h1
        · obtain ⟨j, hj⟩ : ∃ j : Nat, Lib.index l [c] = j := ⟨(Lib.index l [c]).toNat, by omega⟩
          rw [index_ne b c l h]
          rw [hj] at h1 h2 h3 ⊢
          rw [if_pos (by omega)] at h2 h3
          have e1 : ((j : Int) + 1).toNat = j + 1 := by omega
          have e2 : ((j : Int)).toNat = j := by omega
          rw [if_neg (show ¬((j : Int) == -1) = true by rw [beq_iff_eq]; omega), if_pos (by omega), e1]
          rw [e2] at h2 h3
          simp only [List.length_cons, List.length_nil, List.take_succ_cons, List.mem_cons, not_or, List.drop_succ_cons, List.cons_append, List.cons.injEq, true_and] at h2 h3 ⊢
          exact ⟨⟨fun e => h e.symm, h2⟩, h3⟩

/-! ### schemas -/
def tyInt : List UInt8 := [105, 110, 116]
def tyBool : List UInt8 := [98, 111, 111, 108]
def tyText : List UInt8 := [116, 101, 120, 116]
def tyName (t : Int) : List UInt8 := if t = 1 then tyInt else if t = 2 then tyBool else if t = 3 then tyText else []
def tyOf (l : List UInt8) : Int := if l = tyInt then 1 else if l = tyBool then 2 else if l = tyText then 3 else 0
def colText (c : Col) : List UInt8 := c.name.data.toList ++ 32 :: tyName c.type
def schText (l : List Col) : List UInt8 := Lib.join (l.map colText) [44]
def colOf (p : List UInt8) : Option Col := match cutC 32 p with
  | [a, b] => if tyOf b = 0 ∨ nameOk a = false then none else some ⟨mkB a, tyOf b⟩
  | _ => none
def readSch (l : List UInt8) : List Col × Int :=
  if (cutC 44 l).any (fun p => (colOf p).isNone) = true then ([], 2)
  else if schemaErr ((cutC 44 l).filterMap colOf) ≠ 0 then ([], schemaErr ((cutC 44 l).filterMap colOf))
  else ((cutC 44 l).filterMap colOf, 0)

theorem tyOf_name {t : Int} (h : 1 ≤ t ∧ t ≤ 3) : tyOf (tyName t) = t := by
  have : t = 1 ∨ t = 2 ∨ t = 3 := by omega
  rcases this with rfl | rfl | rfl <;> decide
theorem tyName_of {l : List UInt8} (h : tyOf l ≠ 0) : tyName (tyOf l) = l ∧ 1 ≤ tyOf l ∧ tyOf l ≤ 3 := by
  unfold tyOf at h ⊢
  split
  · rename_i e; subst e; decide
  split
  · rename_i e; subst e; decide
  split
  · rename_i e; subst e; decide
  · rename_i h1 h2 h3; rw [if_neg h1, if_neg h2, if_neg h3] at h; exact (h rfl).elim
theorem tyName_bytes (t : Int) : ∀ b ∈ tyName t, b ≠ 32 ∧ b ≠ 44 := by
  unfold tyName
  split
  · decide
  split
  · decide
  split
  · decide
  · intro b hb; cases hb
theorem tyOf_bytes {l : List UInt8} (h : tyOf l ≠ 0) : (32 : UInt8) ∉ l := by
  obtain ⟨e, _⟩ := tyName_of h
  intro hm
  rw [← e] at hm
  exact (tyName_bytes _ _ hm).1 rfl
theorem name_bytes {l : List UInt8} (h : nameOk l = true) : ∀ b ∈ l, b ≠ 32 ∧ b ≠ 44 := by
  intro b hb
  unfold nameOk at h
  simp only [Bool.and_eq_true] at h
  have := List.all_eq_true.1 h.1 b hb
  refine ⟨?_, ?_⟩ <;> (rintro rfl; exact absurd this (by decide))
/-- The program's way: cut at the first blank. -/
theorem colOf_cut (p : List UInt8) : colOf p = if (Lib.cut p [32]).2.2 = true ∧ tyOf (Lib.cut p [32]).2.1 ≠ 0 ∧ nameOk (Lib.cut p [32]).1 = true then some ⟨mkB (Lib.cut p [32]).1, tyOf (Lib.cut p [32]).2.1⟩ else none := by
  rcases cut_of 32 p with ⟨h1, h2⟩ | ⟨h1, h2, h3⟩
  · rw [h1, if_neg (by simp)]
    unfold colOf cutC
    rw [cutG_none h2]
  · rw [h1]
    generalize (Lib.cut p [32]).1 = a at h2 h3 ⊢
    generalize (Lib.cut p [32]).2.1 = b at h3 ⊢
    unfold colOf
    rw [h3, cutG_hit h2]
    by_cases hb : (32 : UInt8) ∈ b
    · have hz : tyOf b = 0 := by
        by_cases h : tyOf b = 0
        · exact h
        · exact (tyOf_bytes h hb).elim
      rw [if_neg (by simp [hz])]
      rcases cut_of 32 b with ⟨_, h5⟩ | ⟨_, h5, h6⟩
      · exact (h5 hb).elim
      · rw [h6, cutG_hit h5]
        cases hc : cutC 32 (Lib.cut b [32]).2.1 with
        | nil => exact (cutG_ne _ _ _ hc).elim
        | cons x t => rfl
    · rw [show cutC 32 b = [b] by unfold cutC; rw [cutG_none hb]; rfl]
      by_cases h : tyOf b = 0
      · rw [if_neg (by simp [h])]; simp [h]
      · by_cases hn : nameOk a = true
        · rw [if_pos ⟨rfl, h, hn⟩]; simp [h, hn]
        · rw [if_neg (by simp [hn])]; simp [hn]
theorem colOf_text {c : Col} (hn : nameOk c.name.data.toList = true) (ht : 1 ≤ c.type ∧ c.type ≤ 3) : colOf (colText c) = some c := by
  unfold colOf colText
  rw [cutG_hit (fun h => (name_bytes hn _ h).1 rfl), show cutC 32 (tyName c.type) = [tyName c.type] by unfold cutC; rw [cutG_none (fun h => (tyName_bytes _ _ h).1 rfl)]; rfl]
  simp only [tyOf_name ht, hn]
  rw [if_neg (by simp; omega)]
  rfl
theorem colOf_some {p : List UInt8} {c : Col} (h : colOf p = some c) : colText c = p ∧ nameOk c.name.data.toList = true ∧ 1 ≤ c.type ∧ c.type ≤ 3 := by
  rw [colOf_cut] at h
  split at h
  · rename_i hh
    obtain ⟨h1, h2, h3⟩ := hh
    injection h with h
    subst h
    rcases cut_of 32 p with ⟨h4, _⟩ | ⟨_, _, h5⟩
    · rw [h1] at h4; cases h4
    · obtain ⟨e1, e2⟩ := tyName_of h2
      refine ⟨?_, by rw [data_mkB]; exact h3, e2⟩
      unfold colText
      rw [data_mkB]
      show _ ++ 32 :: tyName (tyOf _) = _
      rw [e1, ← h5]
  · cases h
theorem schemaErr_zero {l : List Col} (h : schemaErr l = 0) : l ≠ [] ∧ l.length ≤ 6 ∧ ∀ c ∈ l, nameOk c.name.data.toList = true ∧ 1 ≤ c.type ∧ c.type ≤ 3 := by
  unfold schemaErr at h
  split at h
  · omega
  split at h
  · omega
  rename_i h0 h6
  refine ⟨fun e => h0 (by rw [e]; rfl), by omega, fun c hc => ?_⟩
  obtain ⟨k, hk, rfl⟩ := List.mem_iff_getElem.1 hc
  have := firstErr_all h k hk
  unfold schemaAt at this
  rw [List.getElem?_eq_getElem hk] at this
  simp only at this
  split at this
  · omega
  rename_i h1
  split at this
  · omega
  rename_i h2
  exact ⟨by simpa using h1, by omega⟩
/-- WHAT IS SHOWN IS READ AS IT WAS. -/
theorem sch_back {l : List Col} (h : schemaErr l = 0) : readSch (schText l) = (l, 0) := by
  obtain ⟨hne, h6, hc⟩ := schemaErr_zero h
  have hcut : cutC 44 (schText l) = l.map colText := cutC_join (by simpa using hne) (fun y hy => by
    obtain ⟨c, h1, rfl⟩ := List.mem_map.1 hy
    obtain ⟨h2, h3⟩ := hc c h1
    unfold colText
    intro hm
    rcases List.mem_append.1 hm with hm | hm
    · exact (name_bytes h2 _ hm).2 rfl
    · rcases List.mem_cons.1 hm with hm | hm
      · cases hm
      · exact (tyName_bytes _ _ hm).2 rfl)
  have hof : ∀ c ∈ l, colOf (colText c) = some c := fun c h1 => colOf_text (hc c h1).1 (hc c h1).2
  have hfm : (l.map colText).filterMap colOf = l := by
    rw [List.filterMap_map]
    clear hcut h hc hne h6
    induction l with
    | nil => rfl
    | cons x l ih =>
      rw [List.filterMap_cons, show (colOf ∘ colText) x = some x from hof x (by simp)]
      simp only
      rw [ih (fun c h1 => hof c (List.mem_cons_of_mem _ h1))]
  unfold readSch
  rw [hcut, hfm, if_neg, if_neg (by simp [h])]
  rw [List.any_map, Bool.not_eq_true, List.any_eq_false]
  intro c h1
  show ¬ (colOf (colText c)).isNone = true
  rw [hof c h1]; simp
/-- WHAT IS READ IS SHOWN AS IT WAS. -/
theorem sch_again {l : List UInt8} {cs : List Col} (h : readSch l = (cs, 0)) : schemaErr cs = 0 ∧ schText cs = l := by
  unfold readSch at h
  split at h
  · injection h with _ h; omega
  rename_i h2
  split at h
  · rename_i h3; injection h with _ h; exact (h3 h).elim
  rename_i h3
  injection h with h _
  subst h
  refine ⟨by simpa using h3, ?_⟩
  unfold schText
  have key : ∀ ps : List (List UInt8), ps.any (fun p => (colOf p).isNone) = false → (ps.filterMap colOf).map colText = ps := by
    intro ps hp
    induction ps with
    | nil => rfl
    | cons x ps ih =>
      rw [List.any_cons, Bool.or_eq_false_iff] at hp
      obtain ⟨c, hc⟩ : ∃ c, colOf x = some c := by
        cases hx : colOf x with
        | none => rw [hx] at hp; cases hp.1
        | some c => exact ⟨c, rfl⟩
      rw [List.filterMap_cons, hc]
      simp only
      rw [List.map_cons, ih hp.2, (colOf_some hc).1]
  rw [key _ (by simpa using h2)]
  have := cutG_back 44 l []
  exact this
end Go.Proofs.YtpbbkpfaphjdoabGreatDoor
