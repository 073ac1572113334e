/- A value as text: plain, and sluiceref1.Show, walked. -/
import Derived.Test.YtpbbkpfaphjdoaaGreatDoorDigits
import Derived.Lib.Replace
namespace Go.Proofs.YtpbbkpfaphjdoaaGreatDoor
open Go.ChangeShapes Go.WideShapes Go.ChangeAt Go.RowKit

/-- Each sign ' twice. -/
def dblQ : List UInt8 → List UInt8
  | [] => []
  | b :: l => if b = 39 then 39 :: 39 :: dblQ l else b :: dblQ l
theorem dblQ_app : ∀ a b : List UInt8, dblQ (a ++ b) = dblQ a ++ dblQ b
  | [], b => rfl
  | x :: a, b => by
    rw [List.cons_append, dblQ, dblQ, dblQ_app a b]
    split <;> rfl
theorem dblQ_no : ∀ {a : List UInt8}, (∀ b ∈ a, b ≠ 39) → dblQ a = a
  | [], _ => rfl
  | x :: a, h => by
    rw [dblQ, if_neg (h x (by simp)), dblQ_no (fun b hb => h b (List.mem_cons_of_mem _ hb))]
theorem dblQ_len : ∀ a : List UInt8, (dblQ a).length ≤ 2 * a.length
  | [] => Nat.le_refl _
  | x :: a => by
    rw [dblQ]
    have := dblQ_len a
    split <;> simp <;> omega
theorem split39 : ∀ s : List UInt8, (∀ b ∈ s, b ≠ 39) ∨ ∃ a t, s = a ++ 39 :: t ∧ ∀ b ∈ a, b ≠ 39
  | [] => Or.inl (by simp)
  | x :: s => by
    by_cases hx : x = 39
    · exact Or.inr ⟨[], s, by rw [hx]; rfl, by simp⟩
    · rcases split39 s with h | ⟨a, t, h1, h2⟩
      · refine Or.inl fun b hb => ?_
        rcases List.mem_cons.1 hb with rfl | hb
        · exact hx
        · exact h b hb
      · refine Or.inr ⟨x :: a, t, by rw [h1]; rfl, fun b hb => ?_⟩
        rcases List.mem_cons.1 hb with rfl | hb
        · exact hx
        · exact h2 b hb
theorem idx_no : ∀ {s : List UInt8}, (∀ b ∈ s, b ≠ 39) → Lib.index s [39] = -1
  | [], _ => rfl
  | x :: s, h => by
    have hp : ([39] : List UInt8).isPrefixOf (x :: s) = false := by
      have : ((39 : UInt8) == x) = false := by simpa using fun e => h x (by simp) e.symm
      simp [List.isPrefixOf, this]
    rw [Lib.index, hp, idx_no (s := s) (fun b hb => h b (List.mem_cons_of_mem _ hb))]
    rfl
theorem idx_at : ∀ {a t : List UInt8}, (∀ b ∈ a, b ≠ 39) → Lib.index (a ++ 39 :: t) [39] = a.length
  | [], t, _ => by
    rw [List.nil_append, Lib.index, if_pos (by simp [List.isPrefixOf])]
    rfl
  | x :: a, t, h => by
    have hp : ([39] : List UInt8).isPrefixOf (x :: (a ++ 39 :: t)) = false := by
      have : ((39 : UInt8) == x) = false := by simpa using fun e => h x (by simp) e.symm
      simp [List.isPrefixOf, this]
    have ih := idx_at (t := t) (fun b hb => h b (List.mem_cons_of_mem _ hb) : ∀ b ∈ a, b ≠ 39)
    rw [List.cons_append, Lib.index, hp, ih, if_neg (by decide)]
    have hn : ¬ ((a.length : Int) == -1) = true := by
      intro e
      have := beq_iff_eq.1 e
      omega
    rw [if_neg hn, List.length_cons]
    omega
theorem rep_dbl : ∀ (n : Nat) (s : List UInt8), s.length ≤ n → Lib.replaceK [39] [39, 39] (Lib.count s [39]) s = dblQ s
  | n, s, hn => by
    rcases split39 s with h | ⟨a, t, h1, h2⟩
    · rw [Lib.count_miss (idx_no h), Lib.replaceK, dblQ_no h]
    · subst h1
      have hi := idx_at (t := t) h2
      have hd : (a ++ 39 :: t).drop (a.length + [(39 : UInt8)].length) = t := by
        rw [← List.drop_drop, List.drop_left]; rfl
      have hc := Lib.count_hit (s := a ++ 39 :: t) (sub := [39]) (i := a.length) (by decide) hi
      rw [hd] at hc
      rw [hc, Nat.add_comm, Lib.replaceK_hit _ _ _ _ _ hi, List.take_left, hd, dblQ_app, dblQ_no h2, dblQ, if_pos rfl]
      cases n with
      | zero => simp at hn
      | succ n =>
        rw [rep_dbl n t (by simp at hn; omega)]
        simp
theorem replace_dbl (s : List UInt8) : Lib.replaceAll s [39] [39, 39] = dblQ s := by
  unfold Lib.replaceAll Lib.replace Lib.replaceNum
  rw [if_neg (by decide), if_pos (Or.inl (by decide))]
  exact rep_dbl _ s (Nat.le_refl _)
/-- A value as text. -/
def valText (v : Val) : List UInt8 := if v.type = 1 then Lib.itoa v.n else if v.type = 2 then (if v.n = 1 then [116, 114, 117, 101] else [102, 97, 108, 115, 101]) else 39 :: (dblQ v.s.data.toList ++ [39])
theorem belowNew' (w : World) (o : Obj) : Below w.heap.size w (w.alloc o) := (Below.refl _ _).alloc (Nat.le_refl _) _
theorem cells3' {w : World} {b : Nat} {x y z : Value} {T : TypeId} (h : w.heap[b]? = some (.cells #[x, y, z] T (0, 0))) : w.cell? ⟨b, 0, none⟩ = some x ∧ w.cell? ⟨b, 1, none⟩ = some y ∧ w.cell? ⟨b, 2, none⟩ = some z := by
  refine ⟨?_, ?_, ?_⟩ <;> rw [cell_of_row _ _ _ _ _ _ h] <;> rfl
theorem ext_one {s : ByteArray} {k : Nat} {b : UInt8} (h : s.data.toList[k]? = some b) : s.extract k (k + 1) = ⟨[b].toArray⟩ := by
  obtain ⟨⟨l⟩⟩ := s
  apply ByteArray.ext
  have h : l[k]? = some b := h
  obtain ⟨hk, hb⟩ := List.getElem?_eq_some_iff.1 h
  simp only [ByteArray.data_extract]
  apply Array.ext'
  simp only [Array.toList_extract, List.extract_eq_take_drop]
  rw [show k + 1 - k = 1 by omega, List.drop_eq_getElem_cons hk, hb]
  rfl
set_option maxHeartbeats 4000000 in
set_option maxRecDepth 100000 in
theorem show_text (v : Val) (h1 : v.type ≠ 1) (h2 : v.type ≠ 2) (hs : v.s.size ≤ 1000) (w : World) : Calls Tryz.prog 31 #[.agg #[.int .i64 v.type, .int .i64 v.n, .string v.s]] w fun e w' => e = .returned (.string ⟨(valText v).toArray⟩) ∧ Below w.heap.size w w' := by
  have e1 : (v.type == 1) = false := beq_eq_false_iff_ne.2 h1
  have e2 : (v.type == 2) = false := beq_eq_false_iff_ne.2 h2
  have E := Lib.hid (show valText v = 39 :: (dblQ v.s.data.toList ++ [39]) by unfold valText; rw [if_neg h1, if_neg h2])
  obtain ⟨w0, hw0⟩ : ∃ w0, w.alloc (.cells #[.int .i64 v.type, .int .i64 v.n, .string v.s] 23) = w0 := ⟨_, rfl⟩
  have HB := Lib.hid (show Below w.heap.size w w0 by rw [← hw0]; exact belowNew' _ _)
  have hbx := heap_alloc_new w (.cells #[.int .i64 v.type, .int .i64 v.n, .string v.s] 23)
  rw [hw0] at hbx
  obtain ⟨c0, c1, c2⟩ := cells3' hbx
  have HW := Lib.hid hw0
  rw [E.out]
  clear hw0 h1 h2 hbx E
  obtain ⟨bs, hbs⟩ : ∃ bs, bs = v.s.data.toList := ⟨_, rfl⟩
  have hlen : bs.length = v.s.size := by rw [hbs]; rfl
  have HBS := Lib.hid hbs
  rw [← hbs]
  clear hbs
  go_enter Tryz.func31, Tryz.ntmps31
  go_wp2_with (first | rw [HW.out])
  go_loopw [3, 4] (fun su iu wx => ∃ k : Nat, k ≤ v.s.size ∧ iu = .int .i64 k ∧ su = .string ⟨(39 :: dblQ (bs.take k)).toArray⟩ ∧ wx = w0) (fun _ iu _ => v.s.size - (intOf iu).toNat)
  case atStart => exact ⟨0, by omega, rfl, (by first | trivial | rfl), rfl⟩
  case round =>
    obtain ⟨k, hk, rfl, rfl, rfl⟩ := hrel
    have hdl := dblQ_len (bs.take k)
    have htl : (bs.take k).length ≤ 1000 := by rw [List.length_take]; omega
    by_cases hks : k < v.s.size
    · obtain ⟨b, hb⟩ : ∃ b, bs[k]? = some b := ⟨bs[k]'(by omega), List.getElem?_eq_getElem _⟩
      have hext := ext_one (s := v.s) (by rw [← HBS.out]; exact hb)
      have HT := Lib.hid (show dblQ (bs.take (k + 1)) = dblQ (bs.take k) ++ dblQ [b] by rw [List.take_add_one, hb, dblQ_app]; rfl)
      have hget : v.s[k]'hks = b := by
        have h := hb
        rw [HBS.out] at h
        obtain ⟨hk', e⟩ := List.getElem?_eq_some_iff.1 h
        rw [← e]; rfl
      generalize hD : dblQ (bs.take k) = D at hdl HT ⊢
      clear hD
      by_cases h39 : b = 39
      · have e3 : (((v.s[k]'hks).toNat : Int) == 39) = true := by rw [hget, h39]; rfl
        have HT2 := Lib.hid (show dblQ (bs.take (k + 1)) = D ++ [b] ++ [39] by rw [HT.out, h39]; simp [dblQ])
        clear h39 hget hb
        go_wp2_with fail
        go_roundw
        case rel => exact ⟨k + 1, by omega, by go_num, congrArg Value.string (by rw [HT2.out]; exact (congrArg (· ++ (⟨[39].toArray⟩ : ByteArray)) (bytes_app (39 :: D) [b])).trans (bytes_app (39 :: D ++ [b]) [39])), (by first | trivial | rfl)⟩
        case measure => simp [intOf]; omega
      · have e3 : (((v.s[k]'hks).toNat : Int) == 39) = false := by
          rw [hget]
          exact beq_eq_false_iff_ne.2 (fun e => h39 (UInt8.toNat_inj.1 (by show b.toNat = 39; omega)))
        have HT2 := Lib.hid (show dblQ (bs.take (k + 1)) = D ++ [b] by rw [HT.out]; simp [dblQ, h39])
        clear h39 hget hb
        go_wp2_with fail
        go_roundw
        case rel => exact ⟨k + 1, by omega, by go_num, congrArg Value.string (by rw [HT2.out]; exact bytes_app (39 :: D) [b]), (by first | trivial | rfl)⟩
        case measure => simp [intOf]; omega
    · obtain rfl : k = v.s.size := by omega
      have HT := Lib.hid (show bs.take v.s.size = bs from List.take_of_length_le (by omega))
      rw [HT.out] at hdl ⊢
      go_wp2_with fail
      go_ret
      exact ⟨congrArg Ending.returned (congrArg Value.string (bytes_app (39 :: dblQ bs) [39])), HB.out⟩
set_option maxHeartbeats 4000000 in
set_option maxRecDepth 100000 in
theorem show_any (v : Val) (hn : fits v.n) (hs : v.s.size ≤ 1000) (w : World) : Calls Tryz.prog 31 #[.agg #[.int .i64 v.type, .int .i64 v.n, .string v.s]] w fun e w' => e = .returned (.string ⟨(valText v).toArray⟩) ∧ Below w.heap.size w w' := by
  by_cases h1 : v.type = 1
  · have e1 : (v.type == 1) = true := beq_iff_eq.2 h1
    have E := Lib.hid (show valText v = Lib.itoa v.n by unfold valText; rw [if_pos h1])
    obtain ⟨w0, hw0⟩ : ∃ w0, w.alloc (.cells #[.int .i64 v.type, .int .i64 v.n, .string v.s] 23) = w0 := ⟨_, rfl⟩
    have HB := Lib.hid (show Below w.heap.size w w0 by rw [← hw0]; exact belowNew' _ _)
    have hbx := heap_alloc_new w (.cells #[.int .i64 v.type, .int .i64 v.n, .string v.s] 23)
    rw [hw0] at hbx
    obtain ⟨c0, c1, c2⟩ := cells3' hbx
    have HW := Lib.hid hw0
    have T := Lib.hid (digits_any v.n (by unfold fits lo63 hi63 at hn; omega) (by unfold fits lo63 hi63 at hn; omega) w0)
    rw [E.out]
    clear hw0 h1 hbx E hn
    go_enter Tryz.func31, Tryz.ntmps31
    go_wp2_with (first | rw [HW.out])
    refine (T.out).mono ?_
    rintro e w' ⟨rfl, rfl⟩
    go_wp2_with fail
    go_ret
    exact ⟨rfl, HB.out⟩
  by_cases h2 : v.type = 2
  · have e1 : (v.type == 1) = false := beq_eq_false_iff_ne.2 h1
    have e2 : (v.type == 2) = true := beq_iff_eq.2 h2
    obtain ⟨w0, hw0⟩ : ∃ w0, w.alloc (.cells #[.int .i64 v.type, .int .i64 v.n, .string v.s] 23) = w0 := ⟨_, rfl⟩
    have HB := Lib.hid (show Below w.heap.size w w0 by rw [← hw0]; exact belowNew' _ _)
    have hbx := heap_alloc_new w (.cells #[.int .i64 v.type, .int .i64 v.n, .string v.s] 23)
    rw [hw0] at hbx
    obtain ⟨c0, c1, c2⟩ := cells3' hbx
    have HW := Lib.hid hw0
    clear hw0 hbx
    by_cases h3 : v.n = 1
    · have e3 : (v.n == 1) = true := beq_iff_eq.2 h3
      have E := Lib.hid (show valText v = [116, 114, 117, 101] by unfold valText; rw [if_neg h1, if_pos h2, if_pos h3])
      rw [E.out]
      clear h1 h2 h3 E hn
      go_enter Tryz.func31, Tryz.ntmps31
      go_wp2_with (first | rw [HW.out])
      go_ret
      exact ⟨rfl, HB.out⟩
    · have e3 : (v.n == 1) = false := beq_eq_false_iff_ne.2 h3
      have E := Lib.hid (show valText v = [102, 97, 108, 115, 101] by unfold valText; rw [if_neg h1, if_pos h2, if_neg h3])
      rw [E.out]
      clear h1 h2 h3 E hn
      go_enter Tryz.func31, Tryz.ntmps31
      go_wp2_with (first | rw [HW.out])
      go_ret
      exact ⟨rfl, HB.out⟩
  exact show_text v h1 h2 hs w
end Go.Proofs.YtpbbkpfaphjdoaaGreatDoor
