import Derived.Test.YtjoeeilncekgpaaGreatDoorTRdLaw
namespace Go.Proofs.YtjoeeilncekgpaaGreatDoor
section
variable {T : List Tok} {E : Nat}
theorem lift_lv {i j : Nat} {x : Ex} (h : Rd T E .pr i (.ok (x, j))) (hm : isT T i wMinus = false) (hn : isT T i wNot = false) : ∀ (k n : Nat), n + k = 5 → (∀ m, n ≤ m → m < 5 → sgT T m j = none) → Rd T E (.lv n) i (.ok (x, j))
 | 0, n, hk, _ => by
  obtain rfl : n = 5 := by omega
  exact .lvUn (.unPr hm h)
 | k + 1, n, hk, hs => .lvGo (by omega) (fun _ => hn) (lift_lv h hm hn k (n + 1) (by omega) (fun m h1 h2 => hs m (by omega) h2)) (.lpEnd (hs n (Nat.le_refl _) (by omega)))
theorem lift_up {i j : Nat} {x : Ex} {m : Nat} (hm : m ≤ 5) (h : Rd T E (.lv m) i (.ok (x, j))) (hn : isT T i wNot = false ∨ m ≤ 2) : ∀ (k n : Nat), n + k = m → (∀ q, n ≤ q → q < m → sgT T q j = none) → Rd T E (.lv n) i (.ok (x, j))
 | 0, n, hk, _ => by
  obtain rfl : n = m := by omega
  exact h
 | k + 1, n, hk, hs => .lvGo (by omega) (fun e => by rcases hn with hn | hn; exact hn; omega) (lift_up hm h hn k (n + 1) (by omega) (fun q h1 h2 => hs q (by omega) h2)) (.lpEnd (hs n (Nat.le_refl _) (by omega)))
theorem sgT_other {n m j : Nat} {s : List UInt8} (h : isT T j s = true) (hs : s ∈ lvlL n) (hn : n < 5) (hm : m < 5) (hne : m ≠ n) : sgT T m j = none := by
 cases hx : sgT T m j with
 | none => rfl
 | some u =>
  obtain ⟨h1, h2⟩ := sgT_some hx
  have e : s = u := (isT_text h).symm.trans (isT_text h2)
  subst e
  have key : (List.range 5).all (fun n => (List.range 5).all fun m => m == n || (lvlL n).all fun s => !(lvlL m).contains s) = true := by decide
  have k1 := List.all_eq_true.1 (List.all_eq_true.1 key n (List.mem_range.2 hn)) m (List.mem_range.2 hm)
  rw [show (m == n) = false from beq_eq_false_iff_ne.2 hne, Bool.false_or] at k1
  have k2 := List.all_eq_true.1 k1 s hs
  rw [show (lvlL m).contains s = true from List.contains_iff_mem.2 h1] at k2
  cases k2
theorem sgT_not {m j : Nat} {s : List UInt8} (h : isT T j s = true) (hs : ∀ m, m < 5 → s ∉ lvlL m) (hm : m < 5) : sgT T m j = none := by
 cases hx : sgT T m j with
 | none => rfl
 | some u =>
  obtain ⟨h1, h2⟩ := sgT_some hx
  have e : s = u := (isT_text h).symm.trans (isT_text h2)
  subst e
  exact absurd h1 (hs m hm)
theorem close_no (m : Nat) (hm : m < 5) : wClose ∉ lvlL m := by
 have : ∀ m, m < 5 → wClose ∉ lvlL m := by decide
 exact this m hm
theorem comma_no (m : Nat) (hm : m < 5) : wComma ∉ lvlL m := by
 have : ∀ m, m < 5 → wComma ∉ lvlL m := by decide
 exact this m hm
theorem read_two {i j k n : Nat} {x y : Ex} {s : List UInt8} (ho : isT T i wOpen = true) (hx : Rd T E .pr (i + 1) (.ok (x, j))) (hxm : isT T (i + 1) wMinus = false) (hxn : isT T (i + 1) wNot = false) (hs : isT T j s = true) (hl : s ∈ lvlL n) (hn : n < 5)
  (hy : Rd T E .pr (j + 1) (.ok (y, k))) (hym : isT T (j + 1) wMinus = false) (hyn : isT T (j + 1) wNot = false) (hc : isT T k wClose = true) : Rd T E .pr i (.ok (opEx s [x, y] (atT T E j), k + 1)) := by
 have hnn : isT T j wNot = false := isT_one hs (by
  have : ∀ n, n < 5 → ∀ s ∈ lvlL n, s ≠ wNot := by decide
  exact this n hn s hl)
 have hsg : sgT T n j = some s := by
  unfold sgT
  rw [if_pos (List.any_eq_true.2 ⟨s, hl, hs⟩), isT_text hs]
 have rx := lift_lv hx hxm hxn (5 - (n + 1)) (n + 1) (by omega) (fun m h1 h2 => sgT_other hs hl hn h2 (by omega))
 have ry := lift_lv hy hym hyn (5 - (n + 1)) (n + 1) (by omega) (fun m h1 h2 => sgT_not hc close_no h2)
 have rl : Rd T E (.lv n) (i + 1) (.ok (opEx s [x, y] (atT T E j), k)) := by
  by_cases h2 : n = 2
  ·subst h2
   exact .lvGo hn (fun _ => hxn) rx (.lpOne hsg ry)
  ·exact .lvGo hn (fun e => absurd e h2) rx (.lpGo hsg h2 ry (.lpEnd (sgT_not hc close_no hn)))
 exact .prPar ho (lift_up (by omega) rl (Or.inl hxn) n 0 (by omega) (fun q _ h2 => sgT_not hc close_no (by omega))) hc
theorem read_not {i k : Nat} {x : Ex} (ho : isT T i wOpen = true) (hn : isT T (i + 1) wNot = true) (hx : Rd T E .pr (i + 2) (.ok (x, k))) (hxm : isT T (i + 2) wMinus = false) (hxn : isT T (i + 2) wNot = false) (hc : isT T k wClose = true) : Rd T E .pr i (.ok (opEx wNot [x] (atT T E (i + 1)), k + 1)) := by
 have rx := lift_lv hx hxm hxn 3 2 (by omega) (fun m _ h2 => sgT_not hc close_no h2)
 exact .prPar ho (lift_up (m := 2) (by omega) (.lvNot hn rx) (Or.inr (Nat.le_refl _)) 2 0 (by omega) (fun q _ h2 => sgT_not hc close_no (by omega))) hc
theorem read_neg {i k : Nat} {x : Ex} (ho : isT T i wOpen = true) (hn : isT T (i + 1) wMinus = true) (hx : Rd T E .pr (i + 2) (.ok (x, k))) (hxm : isT T (i + 2) wMinus = false) (hc : isT T k wClose = true) : Rd T E .pr i (.ok (opEx wNeg [x] (atT T E (i + 1)), k + 1)) := by
 have hnn : isT T (i + 1) wNot = false := isT_one hn (by decide)
 exact .prPar ho (lift_up (m := 5) (by omega) (.lvUn (.unNeg hn (.unPr hxm hx))) (Or.inl hnn) 5 0 (by omega) (fun q _ h2 => sgT_not hc close_no h2)) hc
theorem read_len {i k : Nat} {x : Ex} (hl : isT T i wLen = true) (ho : isT T (i + 1) wOpen = true) (hx : Rd T E .pr (i + 2) (.ok (x, k))) (hxm : isT T (i + 2) wMinus = false) (hxn : isT T (i + 2) wNot = false) (hc : isT T k wClose = true) : Rd T E .pr i (.ok (opEx wLen [x] (atT T E i), k + 1)) :=
 .prLen hl ho (.arFirst (by omega) (lift_lv hx hxm hxn 5 0 (by omega) (fun m _ h2 => sgT_not hc close_no h2)) (.arEnd rfl hc))
theorem read_if {i k1 k2 k3 : Nat} {x y z : Ex} (hl : isT T i wIf = true) (ho : isT T (i + 1) wOpen = true) (hx : Rd T E .pr (i + 2) (.ok (x, k1))) (hxm : isT T (i + 2) wMinus = false) (hxn : isT T (i + 2) wNot = false) (hc1 : isT T k1 wComma = true)
  (hy : Rd T E .pr (k1 + 1) (.ok (y, k2))) (hym : isT T (k1 + 1) wMinus = false) (hyn : isT T (k1 + 1) wNot = false) (hc2 : isT T k2 wComma = true)
  (hz : Rd T E .pr (k2 + 1) (.ok (z, k3))) (hzm : isT T (k2 + 1) wMinus = false) (hzn : isT T (k2 + 1) wNot = false) (hc : isT T k3 wClose = true) : Rd T E .pr i (.ok (opEx wIf [x, y, z] (atT T E i), k3 + 1)) :=
 .prIf hl ho (.arFirst (by omega) (lift_lv hx hxm hxn 5 0 (by omega) (fun m _ h2 => sgT_not hc1 comma_no h2))
  (.arGo (show 1 < 3 by decide) (by simp) hc1 (lift_lv hy hym hyn 5 0 (by omega) (fun m _ h2 => sgT_not hc2 comma_no h2))
   (.arGo (show 2 < 3 by decide) (by simp) hc2 (lift_lv hz hzm hzn 5 0 (by omega) (fun m _ h2 => sgT_not hc close_no h2)) (.arEnd rfl hc))))
end
end Go.Proofs.YtjoeeilncekgpaaGreatDoor
