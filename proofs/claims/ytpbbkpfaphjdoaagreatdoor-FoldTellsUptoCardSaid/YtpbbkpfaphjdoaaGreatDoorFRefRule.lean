/- The document's answer, walked: Rule of an operation. -/
import Derived.Test.YtpbbkpfaphjdoaaGreatDoorFRefCheck
import Derived.Test.YtpbbkpfaphjdoaaGreatDoorFKindOf
import Derived.Test.YtpbbkpfaphjdoaaGreatDoorFEvFn
namespace Go.Proofs.YtpbbkpfaphjdoaaGreatDoor
open Go.ChangeShapes Go.WideShapes Go.ChangeAt Go.RowKit
def TwoSays (t k : Int) (w : World) (e : Ending) (w' : World) : Prop := e = .returned (.tuple #[.int .i64 t, .int .i64 k]) ∧ Below w.heap.size w w'
theorem isOp_arity (s : ByteArray) : isOpB s = decide (1 ≤ arityOf s) := by
 by_cases h : isOpB s = true
 ·rw [h]
  rcases ops_cases h with rfl | rfl | rfl | rfl | rfl | rfl | rfl | rfl | rfl | rfl | rfl | rfl | rfl | rfl | rfl | rfl | rfl <;> decide
 ·have h' : isOpB s = false := by simpa using h
  rw [h']
  refine (decide_eq_false fun ha => ?_).symm
  have hno : ∀ x ∈ opsB, x ≠ s := fun x hx e => h ((Lib.containsS_iff opsB s).2 (e ▸ hx))
  unfold arityOf at ha
  split at ha
  ·omega
  ·split at ha
   ·rename_i h1
    rcases h1 with h1 | h1 | h1
    ·exact hno ⟨#[110, 111, 116]⟩ ((Lib.containsS_iff opsB _).1 (by decide)) (bytes_of h1).symm
    ·exact hno ⟨#[110, 101, 103]⟩ ((Lib.containsS_iff opsB _).1 (by decide)) (bytes_of h1).symm
    ·exact hno ⟨#[108, 101, 110]⟩ ((Lib.containsS_iff opsB _).1 (by decide)) (bytes_of h1).symm
   ·split at ha
    ·rename_i h1
     exact hno ⟨#[105, 102]⟩ ((Lib.containsS_iff opsB _).1 (by decide)) (bytes_of h1).symm
    ·unfold signAr at ha
     split at ha
     ·rename_i h1
      unfold isSign at h1
      rw [List.any_eq_true] at h1
      obtain ⟨j, hj, hc⟩ := h1
      have hm := (Lib.containsS_iff (lvlB j) s).1 hc
      have hj5 := List.mem_range.1 hj
      have hsub : ∀ l ∈ lvlL j, l ∈ opsL := by
       obtain rfl | rfl | rfl | rfl | rfl : j = 0 ∨ j = 1 ∨ j = 2 ∨ j = 3 ∨ j = 4 := by omega
       all_goals decide
      obtain ⟨l, hl, hls⟩ := List.mem_map.1 hm
      exact hno s (List.mem_map.2 ⟨l, hsub l hl, hls⟩) rfl
     ·omega
theorem allThe_of {ts : List Int} {t : Int} (h : ∀ x ∈ ts, x = t) : allThe ts t = true := by
 unfold allThe
 rw [Bool.not_eq_true', List.any_eq_false]
 intro x hx
 rw [h x hx]
 simp [notThe]
theorem allThe_not {ts : List Int} {t x : Int} (hx : x ∈ ts) (h : x ≠ t) : allThe ts t = false := by
 unfold allThe
 rw [Bool.not_eq_false', List.any_eq_true]
 exact ⟨x, hx, by simpa [notThe] using h⟩
theorem eq_next {ts : List Int} {t x : Int} {k : Nat} (h : ∀ y ∈ ts.take k, y = t) (hk : ts[k]? = some x) (hx : x = t) : ∀ y ∈ ts.take (k + 1), y = t := by
 intro y hy
 rw [List.take_add_one, hk] at hy
 rcases List.mem_append.1 hy with hy | hy
 ·exact h y hy
 ·simp at hy; subst hy; exact hx
theorem two_fits {ts : List Int} (hl : ts.length = 2) : fitsGrp 1 ts = allThe ts (ts.getD 0 0) := by
 match ts, hl with
 | [x, y], _ =>
  show (x == y) = allThe [x, y] x
  by_cases h : x = y
  ·subst h; rw [allThe_of (by intro z hz; simp at hz; rcases hz with rfl | rfl <;> rfl)]; simp
  ·rw [allThe_not (x := y) (by simp) (fun e => h e.symm)]; simpa using h
set_option maxHeartbeats 8000000 in
set_option maxRecDepth 100000 in
theorem rrule_any (s : ByteArray) (ts : List Int) (A : Option Addr) (n c : Nat) (w : World) (hl : Sees w A n c 1 (intCells ts)) :
  Calls Tryz.prog 138 #[.string s, .slice A n c] w (TwoSays (ruleTy s ts) (ruleErr s ts) w) := by
 have HL := Lib.hid hl
 have hcap := hl.2.1
 have hmax := hl.2.2.1
 unfold maxLen at hmax
 have HLn := Lib.hid (intCells_len hl)
 have TA := Lib.hid (rarity_any s w)
 have IO := Lib.hid (isOp_arity s)
 have RT := Lib.hid (show ruleTy s ts = if ruleErr s ts = 0 then typeGrp (grp s) ts else 0 from rfl)
 have RE := Lib.hid (show ruleErr s ts = if isOpB s = false ∨ ts.any noType = true then 1 else if (ts.length : Int) ≠ arityOf s then 3 else if fitsGrp (grp s) ts = true then 0 else 8 from rfl)
 clear hl
 generalize hAr : arityOf s = ar at TA IO RE
 have HAr := Lib.hid hAr
 clear hAr
 by_cases ha : ar < 1
 ·have q : decide (ar < 1) = true := decide_eq_true ha
  have E := Lib.hid (show ruleErr s ts = 1 by rw [RE.out, if_pos (Or.inl (by rw [IO.out]; exact decide_eq_false (by omega)))])
  have E2 := Lib.hid (show ruleTy s ts = 0 by rw [RT.out, E.out, if_neg (by decide)])
  clear ha
  go_enter Tryz.func138, Tryz.ntmps138
  go_wp2_with fail
  refine (TA.out).mono ?_
  rintro e w1 ⟨rfl, hb1⟩
  go_wp2_with fail
  go_ret2
  exact ⟨by rw [E.out, E2.out]; rfl, hb1⟩
 have q : decide (ar < 1) = false := decide_eq_false ha
 have HO := Lib.hid (show isOpB s = true by rw [IO.out]; exact decide_eq_true (by omega))
 clear ha
 go_enter Tryz.func138, Tryz.ntmps138
 go_wp2_with fail
 refine (TA.out).mono ?_
 rintro e w1 ⟨rfl, hb1⟩
 have HB := Lib.hid hb1
 have HL1 := Lib.hid (HL.out.keep hb1)
 clear hb1
 go_wp2_with fail
 go_loop [4, 7] (fun _ i => ∃ k : Nat, k ≤ n ∧ i = .int .i64 k ∧ ∀ x ∈ ts.take k, noType x = false) (fun _ i => n - (intOf i).toNat)
 case atStart => exact ⟨0, by omega, rfl, by simp⟩
 case round =>
  obtain ⟨k, hk, rfl, hno⟩ := hrel
  have HN := Lib.hid hno
  clear hno
  by_cases hlk : k < n
  ·obtain ⟨g, o, x, rfl, hx, c1⟩ := ints_at HL1.out hlk
   have HX := Lib.hid hx
   clear hx
   by_cases hn : noType x = true
   ·have E := Lib.hid (show ruleErr s ts = 1 by rw [RE.out, if_pos (Or.inr (List.any_eq_true.2 ⟨x, List.mem_of_getElem? HX.out, hn⟩))])
    have E2 := Lib.hid (show ruleTy s ts = 0 by rw [RT.out, E.out, if_neg (by decide)])
    unfold noType at hn
    by_cases h1 : x < 1
    ·have q1 : decide (x < 1) = true := decide_eq_true h1
     clear hn h1
     go_wp2_with fail
     go_ret2
     exact ⟨by rw [E.out, E2.out]; rfl, HB.out⟩
    ·have q1 : decide (x < 1) = false := decide_eq_false h1
     have q2 : decide (3 < x) = true := by
      simp at hn
      exact decide_eq_true (by omega)
     clear hn h1
     go_wp2_with fail
     go_ret2
     exact ⟨by rw [E.out, E2.out]; rfl, HB.out⟩
   ·have E := Lib.hid (take_next HN.out HX.out (show noType x = false by simpa using hn))
    unfold noType at hn
    simp at hn
    have q1 : decide (x < 1) = false := decide_eq_false (by omega)
    have q2 : decide (3 < x) = false := decide_eq_false (by omega)
    clear hn
    go_wp2_with fail
    go_round
    case rel => exact ⟨k + 1, by omega, by go_num, E.out⟩
    case measure => simp [intOf]; omega
  ·obtain rfl : n = k := by omega
   have HNT := Lib.hid (show ts.any noType = false by
    have := HN.out
    rw [List.take_of_length_le (by rw [HLn.out]; exact Nat.le_refl _)] at this
    rw [List.any_eq_false]
    intro x hx
    simp [this x hx])
   by_cases hna : (n : Int) = ar
   ·have HF := Lib.hid (show ruleErr s ts = if fitsGrp (grp s) ts = true then 0 else 8 by
     rw [RE.out, if_neg (by rw [HO.out, HNT.out]; simp), if_neg (by rw [HLn.out]; simpa using hna)])
    have q3 : ((n : Int) != ar) = false := by simpa using hna
    subst hna
    clear RE IO
    by_cases hop : s.data.toList = [111, 114]
    ·have HG := Lib.hid (show grp s = 0 by rw [bytes_of hop]; decide)
     have tqo : (s.toList == [111, 114]) = true := str_is hop
     clear hop
     go_wp2_with fail
     have OKE := Lib.hid (fun (h : allThe ts 2 = true) => show ruleErr s ts = 0 by rw [HF.out, if_pos (by rw [HG.out]; exact h)])
     have BADE := Lib.hid (fun (h : allThe ts 2 = false) => show ruleErr s ts = 8 by rw [HF.out, if_neg (by rw [HG.out]; simp [fitsGrp, h])])
     go_loop [4, 10] (fun _ i => ∃ k : Nat, k ≤ n ∧ i = .int .i64 k ∧ ∀ x ∈ ts.take k, x = 2) (fun _ i => n - (intOf i).toNat)
     case atStart => exact ⟨0, by omega, rfl, by simp⟩
     case round =>
      obtain ⟨k, hk, rfl, hno⟩ := hrel
      have HM := Lib.hid hno
      clear hno
      by_cases hlk : k < n
      ·obtain ⟨g', o', x, e', hx, c1⟩ := ints_at HL1.out hlk
       subst e'
       have HX := Lib.hid hx
       clear hx
       by_cases hxw : x = 2
       ·have E := Lib.hid (eq_next HM.out HX.out hxw)
        have q4 : (x != 2) = false := by simpa using hxw
        clear hxw
        go_wp2_with fail
        go_round
        case rel => exact ⟨k + 1, by omega, by go_num, E.out⟩
        case measure => simp [intOf]; omega
       ·have E := Lib.hid (BADE.out (allThe_not (List.mem_of_getElem? HX.out) hxw))
        have E2 := Lib.hid (show ruleTy s ts = 0 by rw [RT.out, E.out, if_neg (by decide)])
        have q4 : (x != 2) = true := by simpa using hxw
        clear hxw
        go_wp2_with fail
        go_ret2
        exact ⟨by rw [E.out, E2.out]; rfl, HB.out⟩
      ·have E := Lib.hid (OKE.out (allThe_of (by have := HM.out; rwa [List.take_of_length_le (by rw [HLn.out]; omega)] at this)))
       have E2 := Lib.hid (show ruleTy s ts = 2 by rw [RT.out, E.out, if_pos rfl, HG.out]; rfl)
       go_wp2_with fail
       go_ret2
       exact ⟨by rw [E.out, E2.out]; rfl, HB.out⟩
    have no := hop
    clear hop
    by_cases hop : s.data.toList = [97, 110, 100]
    ·have HG := Lib.hid (show grp s = 0 by rw [bytes_of hop]; decide)
     have tqo : (s.toList == [111, 114]) = false := str_ne (fun h => by rw [hop] at h; exact absurd h (by decide))
     have tqa : (s.toList == [97, 110, 100]) = true := str_is hop
     clear hop
     go_wp2_with fail
     have OKE := Lib.hid (fun (h : allThe ts 2 = true) => show ruleErr s ts = 0 by rw [HF.out, if_pos (by rw [HG.out]; exact h)])
     have BADE := Lib.hid (fun (h : allThe ts 2 = false) => show ruleErr s ts = 8 by rw [HF.out, if_neg (by rw [HG.out]; simp [fitsGrp, h])])
     go_loop [4, 10] (fun _ i => ∃ k : Nat, k ≤ n ∧ i = .int .i64 k ∧ ∀ x ∈ ts.take k, x = 2) (fun _ i => n - (intOf i).toNat)
     case atStart => exact ⟨0, by omega, rfl, by simp⟩
     case round =>
      obtain ⟨k, hk, rfl, hno⟩ := hrel
      have HM := Lib.hid hno
      clear hno
      by_cases hlk : k < n
      ·obtain ⟨g', o', x, e', hx, c1⟩ := ints_at HL1.out hlk
       subst e'
       have HX := Lib.hid hx
       clear hx
       by_cases hxw : x = 2
       ·have E := Lib.hid (eq_next HM.out HX.out hxw)
        have q4 : (x != 2) = false := by simpa using hxw
        clear hxw
        go_wp2_with fail
        go_round
        case rel => exact ⟨k + 1, by omega, by go_num, E.out⟩
        case measure => simp [intOf]; omega
       ·have E := Lib.hid (BADE.out (allThe_not (List.mem_of_getElem? HX.out) hxw))
        have E2 := Lib.hid (show ruleTy s ts = 0 by rw [RT.out, E.out, if_neg (by decide)])
        have q4 : (x != 2) = true := by simpa using hxw
        clear hxw
        go_wp2_with fail
        go_ret2
        exact ⟨by rw [E.out, E2.out]; rfl, HB.out⟩
      ·have E := Lib.hid (OKE.out (allThe_of (by have := HM.out; rwa [List.take_of_length_le (by rw [HLn.out]; omega)] at this)))
       have E2 := Lib.hid (show ruleTy s ts = 2 by rw [RT.out, E.out, if_pos rfl, HG.out]; rfl)
       go_wp2_with fail
       go_ret2
       exact ⟨by rw [E.out, E2.out]; rfl, HB.out⟩
    have na := hop
    clear hop
    by_cases hop : s.data.toList = [110, 111, 116]
    ·have HG := Lib.hid (show grp s = 0 by rw [bytes_of hop]; decide)
     have tqo : (s.toList == [111, 114]) = false := str_ne (fun h => by rw [hop] at h; exact absurd h (by decide))
     have tqa : (s.toList == [97, 110, 100]) = false := str_ne (fun h => by rw [hop] at h; exact absurd h (by decide))
     have tqn : (s.toList == [110, 111, 116]) = true := str_is hop
     clear hop
     go_wp2_with fail
     have OKE := Lib.hid (fun (h : allThe ts 2 = true) => show ruleErr s ts = 0 by rw [HF.out, if_pos (by rw [HG.out]; exact h)])
     have BADE := Lib.hid (fun (h : allThe ts 2 = false) => show ruleErr s ts = 8 by rw [HF.out, if_neg (by rw [HG.out]; simp [fitsGrp, h])])
     go_loop [4, 10] (fun _ i => ∃ k : Nat, k ≤ n ∧ i = .int .i64 k ∧ ∀ x ∈ ts.take k, x = 2) (fun _ i => n - (intOf i).toNat)
     case atStart => exact ⟨0, by omega, rfl, by simp⟩
     case round =>
      obtain ⟨k, hk, rfl, hno⟩ := hrel
      have HM := Lib.hid hno
      clear hno
      by_cases hlk : k < n
      ·obtain ⟨g', o', x, e', hx, c1⟩ := ints_at HL1.out hlk
       subst e'
       have HX := Lib.hid hx
       clear hx
       by_cases hxw : x = 2
       ·have E := Lib.hid (eq_next HM.out HX.out hxw)
        have q4 : (x != 2) = false := by simpa using hxw
        clear hxw
        go_wp2_with fail
        go_round
        case rel => exact ⟨k + 1, by omega, by go_num, E.out⟩
        case measure => simp [intOf]; omega
       ·have E := Lib.hid (BADE.out (allThe_not (List.mem_of_getElem? HX.out) hxw))
        have E2 := Lib.hid (show ruleTy s ts = 0 by rw [RT.out, E.out, if_neg (by decide)])
        have q4 : (x != 2) = true := by simpa using hxw
        clear hxw
        go_wp2_with fail
        go_ret2
        exact ⟨by rw [E.out, E2.out]; rfl, HB.out⟩
      ·have E := Lib.hid (OKE.out (allThe_of (by have := HM.out; rwa [List.take_of_length_le (by rw [HLn.out]; omega)] at this)))
       have E2 := Lib.hid (show ruleTy s ts = 2 by rw [RT.out, E.out, if_pos rfl, HG.out]; rfl)
       go_wp2_with fail
       go_ret2
       exact ⟨by rw [E.out, E2.out]; rfl, HB.out⟩
    have nn := hop
    clear hop
    by_cases hop : s.data.toList = [61]
    ·have HG := Lib.hid (show grp s = 1 by rw [bytes_of hop]; decide)
     have tqo : (s.toList == [111, 114]) = false := str_ne (fun h => by rw [hop] at h; exact absurd h (by decide))
     have tqa : (s.toList == [97, 110, 100]) = false := str_ne (fun h => by rw [hop] at h; exact absurd h (by decide))
     have tqn : (s.toList == [110, 111, 116]) = false := str_ne (fun h => by rw [hop] at h; exact absurd h (by decide))
     have tqe : (s.toList == [61]) = true := str_is hop
     have hn2 : n = 2 := by
      have h := HAr.out
      rw [bytes_of hop, show arityOf (mkB [61]) = 2 by decide] at h
      omega
     clear hop
     obtain ⟨g, o, x0, rfl, hx0, c0⟩ := ints_at HL1.out (show 0 < n by omega)
     rw [Nat.add_zero] at c0
     have HD := Lib.hid (show ts.getD 0 0 = x0 by rw [List.getD_eq_getElem?_getD, hx0]; rfl)
     have H2 := Lib.hid (two_fits (by rw [HLn.out]; exact hn2))
     have hnp : 0 < n := by omega
     clear hx0 hn2
     have OKE := Lib.hid (fun (h : allThe ts x0 = true) => show ruleErr s ts = 0 by rw [HF.out, if_pos (by rw [HG.out, H2.out, HD.out]; exact h)])
     have BADE := Lib.hid (fun (h : allThe ts x0 = false) => show ruleErr s ts = 8 by rw [HF.out, if_neg (by rw [HG.out, H2.out, HD.out, h]; decide)])
     go_wp2_with fail
     clear c0
     go_loop [4, 10] (fun _ i => ∃ k : Nat, k ≤ n ∧ i = .int .i64 k ∧ ∀ x ∈ ts.take k, x = x0) (fun _ i => n - (intOf i).toNat)
     case atStart => exact ⟨0, by omega, rfl, by simp⟩
     case round =>
      obtain ⟨k, hk, rfl, hno⟩ := hrel
      have HM := Lib.hid hno
      clear hno
      by_cases hlk : k < n
      ·obtain ⟨g', o', x, e', hx, c1⟩ := ints_at HL1.out hlk
       cases e'
       have HX := Lib.hid hx
       clear hx
       by_cases hxw : x = x0
       ·have E := Lib.hid (eq_next HM.out HX.out hxw)
        have q4 : (x != x0) = false := by simpa using hxw
        clear hxw
        go_wp2_with fail
        go_round
        case rel => exact ⟨k + 1, by omega, by go_num, E.out⟩
        case measure => simp [intOf]; omega
       ·have E := Lib.hid (BADE.out (allThe_not (List.mem_of_getElem? HX.out) hxw))
        have E2 := Lib.hid (show ruleTy s ts = 0 by rw [RT.out, E.out, if_neg (by decide)])
        have q4 : (x != x0) = true := by simpa using hxw
        clear hxw
        go_wp2_with fail
        go_ret2
        exact ⟨by rw [E.out, E2.out]; rfl, HB.out⟩
      ·have E := Lib.hid (OKE.out (allThe_of (by have := HM.out; rwa [List.take_of_length_le (by rw [HLn.out]; omega)] at this)))
       have E2 := Lib.hid (show ruleTy s ts = 2 by rw [RT.out, E.out, if_pos rfl, HG.out]; rfl)
       go_wp2_with fail
       go_ret2
       exact ⟨by rw [E.out, E2.out]; rfl, HB.out⟩
    have ne := hop
    clear hop
    by_cases hop : s.data.toList = [60, 62]
    ·have HG := Lib.hid (show grp s = 1 by rw [bytes_of hop]; decide)
     have tqo : (s.toList == [111, 114]) = false := str_ne (fun h => by rw [hop] at h; exact absurd h (by decide))
     have tqa : (s.toList == [97, 110, 100]) = false := str_ne (fun h => by rw [hop] at h; exact absurd h (by decide))
     have tqn : (s.toList == [110, 111, 116]) = false := str_ne (fun h => by rw [hop] at h; exact absurd h (by decide))
     have tqe : (s.toList == [61]) = false := str_ne (fun h => by rw [hop] at h; exact absurd h (by decide))
     have tqd : (s.toList == [60, 62]) = true := str_is hop
     have hn2 : n = 2 := by
      have h := HAr.out
      rw [bytes_of hop, show arityOf (mkB [60, 62]) = 2 by decide] at h
      omega
     clear hop
     obtain ⟨g, o, x0, rfl, hx0, c0⟩ := ints_at HL1.out (show 0 < n by omega)
     rw [Nat.add_zero] at c0
     have HD := Lib.hid (show ts.getD 0 0 = x0 by rw [List.getD_eq_getElem?_getD, hx0]; rfl)
     have H2 := Lib.hid (two_fits (by rw [HLn.out]; exact hn2))
     have hnp : 0 < n := by omega
     clear hx0 hn2
     have OKE := Lib.hid (fun (h : allThe ts x0 = true) => show ruleErr s ts = 0 by rw [HF.out, if_pos (by rw [HG.out, H2.out, HD.out]; exact h)])
     have BADE := Lib.hid (fun (h : allThe ts x0 = false) => show ruleErr s ts = 8 by rw [HF.out, if_neg (by rw [HG.out, H2.out, HD.out, h]; decide)])
     go_wp2_with fail
     clear c0
     go_loop [4, 10] (fun _ i => ∃ k : Nat, k ≤ n ∧ i = .int .i64 k ∧ ∀ x ∈ ts.take k, x = x0) (fun _ i => n - (intOf i).toNat)
     case atStart => exact ⟨0, by omega, rfl, by simp⟩
     case round =>
      obtain ⟨k, hk, rfl, hno⟩ := hrel
      have HM := Lib.hid hno
      clear hno
      by_cases hlk : k < n
      ·obtain ⟨g', o', x, e', hx, c1⟩ := ints_at HL1.out hlk
       cases e'
       have HX := Lib.hid hx
       clear hx
       by_cases hxw : x = x0
       ·have E := Lib.hid (eq_next HM.out HX.out hxw)
        have q4 : (x != x0) = false := by simpa using hxw
        clear hxw
        go_wp2_with fail
        go_round
        case rel => exact ⟨k + 1, by omega, by go_num, E.out⟩
        case measure => simp [intOf]; omega
       ·have E := Lib.hid (BADE.out (allThe_not (List.mem_of_getElem? HX.out) hxw))
        have E2 := Lib.hid (show ruleTy s ts = 0 by rw [RT.out, E.out, if_neg (by decide)])
        have q4 : (x != x0) = true := by simpa using hxw
        clear hxw
        go_wp2_with fail
        go_ret2
        exact ⟨by rw [E.out, E2.out]; rfl, HB.out⟩
      ·have E := Lib.hid (OKE.out (allThe_of (by have := HM.out; rwa [List.take_of_length_le (by rw [HLn.out]; omega)] at this)))
       have E2 := Lib.hid (show ruleTy s ts = 2 by rw [RT.out, E.out, if_pos rfl, HG.out]; rfl)
       go_wp2_with fail
       go_ret2
       exact ⟨by rw [E.out, E2.out]; rfl, HB.out⟩
    have nd := hop
    clear hop
    by_cases hop : s.data.toList = [60]
    ·have HG := Lib.hid (show grp s = 1 by rw [bytes_of hop]; decide)
     have tqo : (s.toList == [111, 114]) = false := str_ne (fun h => by rw [hop] at h; exact absurd h (by decide))
     have tqa : (s.toList == [97, 110, 100]) = false := str_ne (fun h => by rw [hop] at h; exact absurd h (by decide))
     have tqn : (s.toList == [110, 111, 116]) = false := str_ne (fun h => by rw [hop] at h; exact absurd h (by decide))
     have tqe : (s.toList == [61]) = false := str_ne (fun h => by rw [hop] at h; exact absurd h (by decide))
     have tqd : (s.toList == [60, 62]) = false := str_ne (fun h => by rw [hop] at h; exact absurd h (by decide))
     have tql : (s.toList == [60]) = true := str_is hop
     have hn2 : n = 2 := by
      have h := HAr.out
      rw [bytes_of hop, show arityOf (mkB [60]) = 2 by decide] at h
      omega
     clear hop
     obtain ⟨g, o, x0, rfl, hx0, c0⟩ := ints_at HL1.out (show 0 < n by omega)
     rw [Nat.add_zero] at c0
     have HD := Lib.hid (show ts.getD 0 0 = x0 by rw [List.getD_eq_getElem?_getD, hx0]; rfl)
     have H2 := Lib.hid (two_fits (by rw [HLn.out]; exact hn2))
     have hnp : 0 < n := by omega
     clear hx0 hn2
     have OKE := Lib.hid (fun (h : allThe ts x0 = true) => show ruleErr s ts = 0 by rw [HF.out, if_pos (by rw [HG.out, H2.out, HD.out]; exact h)])
     have BADE := Lib.hid (fun (h : allThe ts x0 = false) => show ruleErr s ts = 8 by rw [HF.out, if_neg (by rw [HG.out, H2.out, HD.out, h]; decide)])
     go_wp2_with fail
     clear c0
     go_loop [4, 10] (fun _ i => ∃ k : Nat, k ≤ n ∧ i = .int .i64 k ∧ ∀ x ∈ ts.take k, x = x0) (fun _ i => n - (intOf i).toNat)
     case atStart => exact ⟨0, by omega, rfl, by simp⟩
     case round =>
      obtain ⟨k, hk, rfl, hno⟩ := hrel
      have HM := Lib.hid hno
      clear hno
      by_cases hlk : k < n
      ·obtain ⟨g', o', x, e', hx, c1⟩ := ints_at HL1.out hlk
       cases e'
       have HX := Lib.hid hx
       clear hx
       by_cases hxw : x = x0
       ·have E := Lib.hid (eq_next HM.out HX.out hxw)
        have q4 : (x != x0) = false := by simpa using hxw
        clear hxw
        go_wp2_with fail
        go_round
        case rel => exact ⟨k + 1, by omega, by go_num, E.out⟩
        case measure => simp [intOf]; omega
       ·have E := Lib.hid (BADE.out (allThe_not (List.mem_of_getElem? HX.out) hxw))
        have E2 := Lib.hid (show ruleTy s ts = 0 by rw [RT.out, E.out, if_neg (by decide)])
        have q4 : (x != x0) = true := by simpa using hxw
        clear hxw
        go_wp2_with fail
        go_ret2
        exact ⟨by rw [E.out, E2.out]; rfl, HB.out⟩
      ·have E := Lib.hid (OKE.out (allThe_of (by have := HM.out; rwa [List.take_of_length_le (by rw [HLn.out]; omega)] at this)))
       have E2 := Lib.hid (show ruleTy s ts = 2 by rw [RT.out, E.out, if_pos rfl, HG.out]; rfl)
       go_wp2_with fail
       go_ret2
       exact ⟨by rw [E.out, E2.out]; rfl, HB.out⟩
    have nl := hop
    clear hop
    by_cases hop : s.data.toList = [60, 61]
    ·have HG := Lib.hid (show grp s = 1 by rw [bytes_of hop]; decide)
     have tqo : (s.toList == [111, 114]) = false := str_ne (fun h => by rw [hop] at h; exact absurd h (by decide))
     have tqa : (s.toList == [97, 110, 100]) = false := str_ne (fun h => by rw [hop] at h; exact absurd h (by decide))
     have tqn : (s.toList == [110, 111, 116]) = false := str_ne (fun h => by rw [hop] at h; exact absurd h (by decide))
     have tqe : (s.toList == [61]) = false := str_ne (fun h => by rw [hop] at h; exact absurd h (by decide))
     have tqd : (s.toList == [60, 62]) = false := str_ne (fun h => by rw [hop] at h; exact absurd h (by decide))
     have tql : (s.toList == [60]) = false := str_ne (fun h => by rw [hop] at h; exact absurd h (by decide))
     have tqk : (s.toList == [60, 61]) = true := str_is hop
     have hn2 : n = 2 := by
      have h := HAr.out
      rw [bytes_of hop, show arityOf (mkB [60, 61]) = 2 by decide] at h
      omega
     clear hop
     obtain ⟨g, o, x0, rfl, hx0, c0⟩ := ints_at HL1.out (show 0 < n by omega)
     rw [Nat.add_zero] at c0
     have HD := Lib.hid (show ts.getD 0 0 = x0 by rw [List.getD_eq_getElem?_getD, hx0]; rfl)
     have H2 := Lib.hid (two_fits (by rw [HLn.out]; exact hn2))
     have hnp : 0 < n := by omega
     clear hx0 hn2
     have OKE := Lib.hid (fun (h : allThe ts x0 = true) => show ruleErr s ts = 0 by rw [HF.out, if_pos (by rw [HG.out, H2.out, HD.out]; exact h)])
     have BADE := Lib.hid (fun (h : allThe ts x0 = false) => show ruleErr s ts = 8 by rw [HF.out, if_neg (by rw [HG.out, H2.out, HD.out, h]; decide)])
     go_wp2_with fail
     clear c0
     go_loop [4, 10] (fun _ i => ∃ k : Nat, k ≤ n ∧ i = .int .i64 k ∧ ∀ x ∈ ts.take k, x = x0) (fun _ i => n - (intOf i).toNat)
     case atStart => exact ⟨0, by omega, rfl, by simp⟩
     case round =>
      obtain ⟨k, hk, rfl, hno⟩ := hrel
      have HM := Lib.hid hno
      clear hno
      by_cases hlk : k < n
      ·obtain ⟨g', o', x, e', hx, c1⟩ := ints_at HL1.out hlk
       cases e'
       have HX := Lib.hid hx
       clear hx
       by_cases hxw : x = x0
       ·have E := Lib.hid (eq_next HM.out HX.out hxw)
        have q4 : (x != x0) = false := by simpa using hxw
        clear hxw
        go_wp2_with fail
        go_round
        case rel => exact ⟨k + 1, by omega, by go_num, E.out⟩
        case measure => simp [intOf]; omega
       ·have E := Lib.hid (BADE.out (allThe_not (List.mem_of_getElem? HX.out) hxw))
        have E2 := Lib.hid (show ruleTy s ts = 0 by rw [RT.out, E.out, if_neg (by decide)])
        have q4 : (x != x0) = true := by simpa using hxw
        clear hxw
        go_wp2_with fail
        go_ret2
        exact ⟨by rw [E.out, E2.out]; rfl, HB.out⟩
      ·have E := Lib.hid (OKE.out (allThe_of (by have := HM.out; rwa [List.take_of_length_le (by rw [HLn.out]; omega)] at this)))
       have E2 := Lib.hid (show ruleTy s ts = 2 by rw [RT.out, E.out, if_pos rfl, HG.out]; rfl)
       go_wp2_with fail
       go_ret2
       exact ⟨by rw [E.out, E2.out]; rfl, HB.out⟩
    have nk := hop
    clear hop
    by_cases hop : s.data.toList = [62]
    ·have HG := Lib.hid (show grp s = 1 by rw [bytes_of hop]; decide)
     have tqo : (s.toList == [111, 114]) = false := str_ne (fun h => by rw [hop] at h; exact absurd h (by decide))
     have tqa : (s.toList == [97, 110, 100]) = false := str_ne (fun h => by rw [hop] at h; exact absurd h (by decide))
     have tqn : (s.toList == [110, 111, 116]) = false := str_ne (fun h => by rw [hop] at h; exact absurd h (by decide))
     have tqe : (s.toList == [61]) = false := str_ne (fun h => by rw [hop] at h; exact absurd h (by decide))
     have tqd : (s.toList == [60, 62]) = false := str_ne (fun h => by rw [hop] at h; exact absurd h (by decide))
     have tql : (s.toList == [60]) = false := str_ne (fun h => by rw [hop] at h; exact absurd h (by decide))
     have tqk : (s.toList == [60, 61]) = false := str_ne (fun h => by rw [hop] at h; exact absurd h (by decide))
     have tqg : (s.toList == [62]) = true := str_is hop
     have hn2 : n = 2 := by
      have h := HAr.out
      rw [bytes_of hop, show arityOf (mkB [62]) = 2 by decide] at h
      omega
     clear hop
     obtain ⟨g, o, x0, rfl, hx0, c0⟩ := ints_at HL1.out (show 0 < n by omega)
     rw [Nat.add_zero] at c0
     have HD := Lib.hid (show ts.getD 0 0 = x0 by rw [List.getD_eq_getElem?_getD, hx0]; rfl)
     have H2 := Lib.hid (two_fits (by rw [HLn.out]; exact hn2))
     have hnp : 0 < n := by omega
     clear hx0 hn2
     have OKE := Lib.hid (fun (h : allThe ts x0 = true) => show ruleErr s ts = 0 by rw [HF.out, if_pos (by rw [HG.out, H2.out, HD.out]; exact h)])
     have BADE := Lib.hid (fun (h : allThe ts x0 = false) => show ruleErr s ts = 8 by rw [HF.out, if_neg (by rw [HG.out, H2.out, HD.out, h]; decide)])
     go_wp2_with fail
     clear c0
     go_loop [4, 10] (fun _ i => ∃ k : Nat, k ≤ n ∧ i = .int .i64 k ∧ ∀ x ∈ ts.take k, x = x0) (fun _ i => n - (intOf i).toNat)
     case atStart => exact ⟨0, by omega, rfl, by simp⟩
     case round =>
      obtain ⟨k, hk, rfl, hno⟩ := hrel
      have HM := Lib.hid hno
      clear hno
      by_cases hlk : k < n
      ·obtain ⟨g', o', x, e', hx, c1⟩ := ints_at HL1.out hlk
       cases e'
       have HX := Lib.hid hx
       clear hx
       by_cases hxw : x = x0
       ·have E := Lib.hid (eq_next HM.out HX.out hxw)
        have q4 : (x != x0) = false := by simpa using hxw
        clear hxw
        go_wp2_with fail
        go_round
        case rel => exact ⟨k + 1, by omega, by go_num, E.out⟩
        case measure => simp [intOf]; omega
       ·have E := Lib.hid (BADE.out (allThe_not (List.mem_of_getElem? HX.out) hxw))
        have E2 := Lib.hid (show ruleTy s ts = 0 by rw [RT.out, E.out, if_neg (by decide)])
        have q4 : (x != x0) = true := by simpa using hxw
        clear hxw
        go_wp2_with fail
        go_ret2
        exact ⟨by rw [E.out, E2.out]; rfl, HB.out⟩
      ·have E := Lib.hid (OKE.out (allThe_of (by have := HM.out; rwa [List.take_of_length_le (by rw [HLn.out]; omega)] at this)))
       have E2 := Lib.hid (show ruleTy s ts = 2 by rw [RT.out, E.out, if_pos rfl, HG.out]; rfl)
       go_wp2_with fail
       go_ret2
       exact ⟨by rw [E.out, E2.out]; rfl, HB.out⟩
    have ng := hop
    clear hop
    by_cases hop : s.data.toList = [62, 61]
    ·have HG := Lib.hid (show grp s = 1 by rw [bytes_of hop]; decide)
     have tqo : (s.toList == [111, 114]) = false := str_ne (fun h => by rw [hop] at h; exact absurd h (by decide))
     have tqa : (s.toList == [97, 110, 100]) = false := str_ne (fun h => by rw [hop] at h; exact absurd h (by decide))
     have tqn : (s.toList == [110, 111, 116]) = false := str_ne (fun h => by rw [hop] at h; exact absurd h (by decide))
     have tqe : (s.toList == [61]) = false := str_ne (fun h => by rw [hop] at h; exact absurd h (by decide))
     have tqd : (s.toList == [60, 62]) = false := str_ne (fun h => by rw [hop] at h; exact absurd h (by decide))
     have tql : (s.toList == [60]) = false := str_ne (fun h => by rw [hop] at h; exact absurd h (by decide))
     have tqk : (s.toList == [60, 61]) = false := str_ne (fun h => by rw [hop] at h; exact absurd h (by decide))
     have tqg : (s.toList == [62]) = false := str_ne (fun h => by rw [hop] at h; exact absurd h (by decide))
     have tqh : (s.toList == [62, 61]) = true := str_is hop
     have hn2 : n = 2 := by
      have h := HAr.out
      rw [bytes_of hop, show arityOf (mkB [62, 61]) = 2 by decide] at h
      omega
     clear hop
     obtain ⟨g, o, x0, rfl, hx0, c0⟩ := ints_at HL1.out (show 0 < n by omega)
     rw [Nat.add_zero] at c0
     have HD := Lib.hid (show ts.getD 0 0 = x0 by rw [List.getD_eq_getElem?_getD, hx0]; rfl)
     have H2 := Lib.hid (two_fits (by rw [HLn.out]; exact hn2))
     have hnp : 0 < n := by omega
     clear hx0 hn2
     have OKE := Lib.hid (fun (h : allThe ts x0 = true) => show ruleErr s ts = 0 by rw [HF.out, if_pos (by rw [HG.out, H2.out, HD.out]; exact h)])
     have BADE := Lib.hid (fun (h : allThe ts x0 = false) => show ruleErr s ts = 8 by rw [HF.out, if_neg (by rw [HG.out, H2.out, HD.out, h]; decide)])
     go_wp2_with fail
     clear c0
     go_loop [4, 10] (fun _ i => ∃ k : Nat, k ≤ n ∧ i = .int .i64 k ∧ ∀ x ∈ ts.take k, x = x0) (fun _ i => n - (intOf i).toNat)
     case atStart => exact ⟨0, by omega, rfl, by simp⟩
     case round =>
      obtain ⟨k, hk, rfl, hno⟩ := hrel
      have HM := Lib.hid hno
      clear hno
      by_cases hlk : k < n
      ·obtain ⟨g', o', x, e', hx, c1⟩ := ints_at HL1.out hlk
       cases e'
       have HX := Lib.hid hx
       clear hx
       by_cases hxw : x = x0
       ·have E := Lib.hid (eq_next HM.out HX.out hxw)
        have q4 : (x != x0) = false := by simpa using hxw
        clear hxw
        go_wp2_with fail
        go_round
        case rel => exact ⟨k + 1, by omega, by go_num, E.out⟩
        case measure => simp [intOf]; omega
       ·have E := Lib.hid (BADE.out (allThe_not (List.mem_of_getElem? HX.out) hxw))
        have E2 := Lib.hid (show ruleTy s ts = 0 by rw [RT.out, E.out, if_neg (by decide)])
        have q4 : (x != x0) = true := by simpa using hxw
        clear hxw
        go_wp2_with fail
        go_ret2
        exact ⟨by rw [E.out, E2.out]; rfl, HB.out⟩
      ·have E := Lib.hid (OKE.out (allThe_of (by have := HM.out; rwa [List.take_of_length_le (by rw [HLn.out]; omega)] at this)))
       have E2 := Lib.hid (show ruleTy s ts = 2 by rw [RT.out, E.out, if_pos rfl, HG.out]; rfl)
       go_wp2_with fail
       go_ret2
       exact ⟨by rw [E.out, E2.out]; rfl, HB.out⟩
    have nh := hop
    clear hop
    by_cases hop : s.data.toList = [108, 101, 110]
    ·have HG := Lib.hid (show grp s = 2 by rw [bytes_of hop]; decide)
     have tqo : (s.toList == [111, 114]) = false := str_ne (fun h => by rw [hop] at h; exact absurd h (by decide))
     have tqa : (s.toList == [97, 110, 100]) = false := str_ne (fun h => by rw [hop] at h; exact absurd h (by decide))
     have tqn : (s.toList == [110, 111, 116]) = false := str_ne (fun h => by rw [hop] at h; exact absurd h (by decide))
     have tqe : (s.toList == [61]) = false := str_ne (fun h => by rw [hop] at h; exact absurd h (by decide))
     have tqd : (s.toList == [60, 62]) = false := str_ne (fun h => by rw [hop] at h; exact absurd h (by decide))
     have tql : (s.toList == [60]) = false := str_ne (fun h => by rw [hop] at h; exact absurd h (by decide))
     have tqk : (s.toList == [60, 61]) = false := str_ne (fun h => by rw [hop] at h; exact absurd h (by decide))
     have tqg : (s.toList == [62]) = false := str_ne (fun h => by rw [hop] at h; exact absurd h (by decide))
     have tqh : (s.toList == [62, 61]) = false := str_ne (fun h => by rw [hop] at h; exact absurd h (by decide))
     have tqy : (s.toList == [108, 101, 110]) = true := str_is hop
     clear hop
     go_wp2_with fail
     have OKE := Lib.hid (fun (h : allThe ts 3 = true) => show ruleErr s ts = 0 by rw [HF.out, if_pos (by rw [HG.out]; exact h)])
     have BADE := Lib.hid (fun (h : allThe ts 3 = false) => show ruleErr s ts = 8 by rw [HF.out, if_neg (by rw [HG.out]; simp [fitsGrp, h])])
     go_loop [4, 10] (fun _ i => ∃ k : Nat, k ≤ n ∧ i = .int .i64 k ∧ ∀ x ∈ ts.take k, x = 3) (fun _ i => n - (intOf i).toNat)
     case atStart => exact ⟨0, by omega, rfl, by simp⟩
     case round =>
      obtain ⟨k, hk, rfl, hno⟩ := hrel
      have HM := Lib.hid hno
      clear hno
      by_cases hlk : k < n
      ·obtain ⟨g', o', x, e', hx, c1⟩ := ints_at HL1.out hlk
       subst e'
       have HX := Lib.hid hx
       clear hx
       by_cases hxw : x = 3
       ·have E := Lib.hid (eq_next HM.out HX.out hxw)
        have q4 : (x != 3) = false := by simpa using hxw
        clear hxw
        go_wp2_with fail
        go_round
        case rel => exact ⟨k + 1, by omega, by go_num, E.out⟩
        case measure => simp [intOf]; omega
       ·have E := Lib.hid (BADE.out (allThe_not (List.mem_of_getElem? HX.out) hxw))
        have E2 := Lib.hid (show ruleTy s ts = 0 by rw [RT.out, E.out, if_neg (by decide)])
        have q4 : (x != 3) = true := by simpa using hxw
        clear hxw
        go_wp2_with fail
        go_ret2
        exact ⟨by rw [E.out, E2.out]; rfl, HB.out⟩
      ·have E := Lib.hid (OKE.out (allThe_of (by have := HM.out; rwa [List.take_of_length_le (by rw [HLn.out]; omega)] at this)))
       have E2 := Lib.hid (show ruleTy s ts = 1 by rw [RT.out, E.out, if_pos rfl, HG.out]; rfl)
       go_wp2_with fail
       go_ret2
       exact ⟨by rw [E.out, E2.out]; rfl, HB.out⟩
    have ny := hop
    clear hop
    by_cases hop : s.data.toList = [105, 102]
    ·have HG := Lib.hid (show grp s = 3 by rw [bytes_of hop]; decide)
     have tqo : (s.toList == [111, 114]) = false := str_ne (fun h => by rw [hop] at h; exact absurd h (by decide))
     have tqa : (s.toList == [97, 110, 100]) = false := str_ne (fun h => by rw [hop] at h; exact absurd h (by decide))
     have tqn : (s.toList == [110, 111, 116]) = false := str_ne (fun h => by rw [hop] at h; exact absurd h (by decide))
     have tqe : (s.toList == [61]) = false := str_ne (fun h => by rw [hop] at h; exact absurd h (by decide))
     have tqd : (s.toList == [60, 62]) = false := str_ne (fun h => by rw [hop] at h; exact absurd h (by decide))
     have tql : (s.toList == [60]) = false := str_ne (fun h => by rw [hop] at h; exact absurd h (by decide))
     have tqk : (s.toList == [60, 61]) = false := str_ne (fun h => by rw [hop] at h; exact absurd h (by decide))
     have tqg : (s.toList == [62]) = false := str_ne (fun h => by rw [hop] at h; exact absurd h (by decide))
     have tqh : (s.toList == [62, 61]) = false := str_ne (fun h => by rw [hop] at h; exact absurd h (by decide))
     have tqy : (s.toList == [108, 101, 110]) = false := str_ne (fun h => by rw [hop] at h; exact absurd h (by decide))
     have tqi : (s.toList == [105, 102]) = true := str_is hop
     obtain rfl : n = 3 := by
      have h := HAr.out
      rw [bytes_of hop, show arityOf (mkB [105, 102]) = 3 by decide] at h
      omega
     clear hop
     obtain ⟨g, o, x0, rfl, hx0, c0⟩ := ints_at HL1.out (k := 0) (by omega)
     rw [Nat.add_zero] at c0
     obtain ⟨g', o', x1, e1, hx1, c1⟩ := ints_at HL1.out (k := 1) (by omega)
     cases e1
     obtain ⟨g', o', x2, e2, hx2, c2⟩ := ints_at HL1.out (k := 2) (by omega)
     cases e2
     have HD := Lib.hid (show fitsGrp 3 ts = ((x0 == 2) && (x1 == x2)) by show ((ts.getD 0 0 == 2) && (ts.getD 1 0 == ts.getD 2 0)) = _; simp [List.getD_eq_getElem?_getD, hx0, hx1, hx2])
     have HTy := Lib.hid (show typeGrp 3 ts = x1 by show ts.getD 1 0 = x1; simp [List.getD_eq_getElem?_getD, hx1])
     clear hx0 hx1 hx2
     by_cases h0 : x0 = 2
     ·by_cases h12 : x1 = x2
      ·have q5 : (x0 != 2) = false := by simpa using h0
       have q6 : (x1 != x2) = false := by simpa using h12
       have E := Lib.hid (show ruleErr s ts = 0 by rw [HF.out, if_pos (by rw [HG.out, HD.out]; simp [h0, h12])])
       have E2 := Lib.hid (show ruleTy s ts = x1 by rw [RT.out, E.out, if_pos rfl, HG.out, HTy.out])
       clear h0 h12
       go_wp2_with fail
       go_quiet (fail)
       have HBZ := Lib.hid (below_drewN HB.out nq)
       have c1' : (w1.drewN nq).cell? ⟨g, o + 1, none⟩ = some (.int .i64 x1) := c1
       generalize w1.drewN nq = wz at HBZ c1' ⊢
       go_wp2_with fail
       go_ret2
       exact ⟨by rw [E.out, E2.out]; rfl, HBZ.out⟩
      ·have q5 : (x0 != 2) = false := by simpa using h0
       have q6 : (x1 != x2) = true := by simpa using h12
       have E := Lib.hid (show ruleErr s ts = 8 by rw [HF.out, if_neg (by rw [HG.out, HD.out]; simp [h12])])
       have E2 := Lib.hid (show ruleTy s ts = 0 by rw [RT.out, E.out, if_neg (by decide)])
       clear h0 h12
       go_wp2_with fail
       go_quiet (fail)
       have HBZ := Lib.hid (below_drewN HB.out nq)
       generalize w1.drewN nq = wz at HBZ ⊢
       go_wp2_with fail
       go_ret2
       exact ⟨by rw [E.out, E2.out]; rfl, HBZ.out⟩
     ·have q5 : (x0 != 2) = true := by simpa using h0
      have E := Lib.hid (show ruleErr s ts = 8 by rw [HF.out, if_neg (by rw [HG.out, HD.out]; simp [h0])])
      have E2 := Lib.hid (show ruleTy s ts = 0 by rw [RT.out, E.out, if_neg (by decide)])
      clear h0
      go_wp2_with fail
      go_quiet (fail)
      have HBZ := Lib.hid (below_drewN HB.out nq)
      generalize w1.drewN nq = wz at HBZ ⊢
      go_wp2_with fail
      go_ret2
      exact ⟨by rw [E.out, E2.out]; rfl, HBZ.out⟩
    have ni := hop
    clear hop
    have HG := Lib.hid (show grp s = 4 by unfold grp; rw [if_neg (by rintro (h | h | h); exact no h; exact na h; exact nn h), if_neg (by rintro (h | h | h | h | h | h); exact ne h; exact nd h; exact nl h; exact nk h; exact ng h; exact nh h), if_neg ny, if_neg ni])
    have tqo : (s.toList == [111, 114]) = false := str_ne no
    have tqa : (s.toList == [97, 110, 100]) = false := str_ne na
    have tqn : (s.toList == [110, 111, 116]) = false := str_ne nn
    have tqe : (s.toList == [61]) = false := str_ne ne
    have tqd : (s.toList == [60, 62]) = false := str_ne nd
    have tql : (s.toList == [60]) = false := str_ne nl
    have tqk : (s.toList == [60, 61]) = false := str_ne nk
    have tqg : (s.toList == [62]) = false := str_ne ng
    have tqh : (s.toList == [62, 61]) = false := str_ne nh
    have tqy : (s.toList == [108, 101, 110]) = false := str_ne ny
    have tqi : (s.toList == [105, 102]) = false := str_ne ni
    clear no na nn ne nd nl nk ng nh ny ni
    go_wp2_with fail
    have OKE := Lib.hid (fun (h : allThe ts 1 = true) => show ruleErr s ts = 0 by rw [HF.out, if_pos (by rw [HG.out]; exact h)])
    have BADE := Lib.hid (fun (h : allThe ts 1 = false) => show ruleErr s ts = 8 by rw [HF.out, if_neg (by rw [HG.out]; simp [fitsGrp, h])])
    go_loop [4, 10] (fun _ i => ∃ k : Nat, k ≤ n ∧ i = .int .i64 k ∧ ∀ x ∈ ts.take k, x = 1) (fun _ i => n - (intOf i).toNat)
    case atStart => exact ⟨0, by omega, rfl, by simp⟩
    case round =>
     obtain ⟨k, hk, rfl, hno⟩ := hrel
     have HM := Lib.hid hno
     clear hno
     by_cases hlk : k < n
     ·obtain ⟨g', o', x, e', hx, c1⟩ := ints_at HL1.out hlk
      subst e'
      have HX := Lib.hid hx
      clear hx
      by_cases hxw : x = 1
      ·have E := Lib.hid (eq_next HM.out HX.out hxw)
       have q4 : (x != 1) = false := by simpa using hxw
       clear hxw
       go_wp2_with fail
       go_round
       case rel => exact ⟨k + 1, by omega, by go_num, E.out⟩
       case measure => simp [intOf]; omega
      ·have E := Lib.hid (BADE.out (allThe_not (List.mem_of_getElem? HX.out) hxw))
       have E2 := Lib.hid (show ruleTy s ts = 0 by rw [RT.out, E.out, if_neg (by decide)])
       have q4 : (x != 1) = true := by simpa using hxw
       clear hxw
       go_wp2_with fail
       go_ret2
       exact ⟨by rw [E.out, E2.out]; rfl, HB.out⟩
     ·have E := Lib.hid (OKE.out (allThe_of (by have := HM.out; rwa [List.take_of_length_le (by rw [HLn.out]; omega)] at this)))
      have E2 := Lib.hid (show ruleTy s ts = 1 by rw [RT.out, E.out, if_pos rfl, HG.out]; rfl)
      go_wp2_with fail
      go_ret2
      exact ⟨by rw [E.out, E2.out]; rfl, HB.out⟩
   ·have E := Lib.hid (show ruleErr s ts = 3 by rw [RE.out, if_neg (by rw [HO.out, HNT.out]; simp), if_pos (by rw [HLn.out]; exact hna)])
    have E2 := Lib.hid (show ruleTy s ts = 0 by rw [RT.out, E.out, if_neg (by decide)])
    have q3 : ((n : Int) != ar) = true := by simpa using hna
    clear hna
    go_wp2_with fail
    go_ret2
    exact ⟨by rw [E.out, E2.out]; rfl, HB.out⟩
end Go.Proofs.YtpbbkpfaphjdoaaGreatDoor
