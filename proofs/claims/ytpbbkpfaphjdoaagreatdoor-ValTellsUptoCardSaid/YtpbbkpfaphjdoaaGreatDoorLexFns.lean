/- Package lex and the document's words: letter, digit, span, walked. -/
import Derived.Test.YtpbbkpfaphjdoaaGreatDoorLexLaw
import Derived.Test.YtpbbkpfaphjdoaaGreatDoorRefVal
import Derived.Test.YtpbbkpfaphjdoaaGreatDoorPrint
namespace Go.Proofs.YtpbbkpfaphjdoaaGreatDoor
open Go.ChangeShapes Go.WideShapes Go.ChangeAt Go.RowKit

theorem isL_dec (b : UInt8) : isL b = (decide (97 ≤ (b.toNat : Int)) && decide ((b.toNat : Int) ≤ 122)) := by
  unfold isL; rw [Bool.decide_and]; congr 1 <;> (congr 1; apply propext; omega)
theorem isD_dec (b : UInt8) : isD b = (decide (48 ≤ (b.toNat : Int)) && decide ((b.toNat : Int) ≤ 57)) := by
  unfold isD; rw [Bool.decide_and]; congr 1 <;> (congr 1; apply propext; omega)
def ByteFn (f : Nat) (p : UInt8 → Bool) : Prop := ∀ (b : UInt8) (w : World), Calls Tryz.prog f #[.int .u8 (b.toNat : Int)] w fun e w' => e = .returned (.bool (p b)) ∧ w = w'
theorem lletter : ByteFn 204 isL := by
  intro b w
  have E := Lib.hid (isL_dec b)
  generalize (b.toNat : Int) = x at *
  go_enter Tryz.func204, Tryz.ntmps204
  go_wp2_with fail
  all_goals go_ret
  all_goals exact ⟨by rw [E.out]; simp [*] <;> omega, rfl⟩
theorem ldigit : ByteFn 207 isD := by
  intro b w
  have E := Lib.hid (isD_dec b)
  generalize (b.toNat : Int) = x at *
  go_enter Tryz.func207, Tryz.ntmps207
  go_wp2_with fail
  all_goals go_ret
  all_goals exact ⟨by rw [E.out]; simp [*] <;> omega, rfl⟩
theorem rletter : ByteFn 124 isL := by
  intro b w
  have E := Lib.hid (isL_dec b)
  generalize (b.toNat : Int) = x at *
  go_enter Tryz.func124, Tryz.ntmps124
  go_wp2_with fail
  all_goals go_ret
  all_goals exact ⟨by rw [E.out]; simp [*] <;> omega, rfl⟩
theorem rdigit : ByteFn 125 isD := by
  intro b w
  have E := Lib.hid (isD_dec b)
  generalize (b.toNat : Int) = x at *
  go_enter Tryz.func125, Tryz.ntmps125
  go_wp2_with fail
  all_goals go_ret
  all_goals exact ⟨by rw [E.out]; simp [*] <;> omega, rfl⟩
theorem lword : ByteFn 206 isLD := by
  intro b w
  unfold isLD
  generalize hL : isL b = x
  have HL := Lib.hid hL
  clear hL
  cases x
  all_goals go_enter Tryz.func206, Tryz.ntmps206
  all_goals go_wp2_with (first | (go_at_call 204; refine (lletter b _).mono ?_; rintro e w' ⟨rfl, rfl⟩; rw [HL.out]) | (go_at_call 207; refine (ldigit b _).mono ?_; rintro e w' ⟨rfl, rfl⟩))
  all_goals go_ret
  all_goals exact ⟨rfl, rfl⟩
/-- How far a text goes on so. -/
def spanN (p : UInt8 → Bool) (s : ByteArray) : Nat := (s.data.toList.takeWhile p).length
theorem tw_some {p : UInt8 → Bool} {l : List UInt8} {k : Nat} {b : UInt8} (h : (l.take k).all p = true) (hk : l[k]? = some b) (hp : p b = false) : (l.takeWhile p).length = k := by
  have hlt : k < l.length := (List.getElem?_eq_some_iff.1 hk).1
  have := tw_app (l.take k) (l.drop k) h (fun x hx => by
    rw [List.head?_drop, hk] at hx
    injection hx with hx; rw [← hx]; exact hp)
  rw [List.take_append_drop] at this
  rw [this.1, List.length_take]; omega
theorem tw_full {p : UInt8 → Bool} {l : List UInt8} (h : l.all p = true) : (l.takeWhile p).length = l.length := by
  have := tw_app l [] h (fun x hx => by cases hx)
  rw [List.append_nil] at this
  rw [this.1]
-- spans
set_option maxHeartbeats 2000000 in
theorem span_digit (s : ByteArray) (hs : s.size ≤ maxLen) (w : World) :
    Calls Tryz.prog 205 #[.string s, .func (.func 207) #[] #[]] w fun e w' => e = .returned (.int .i64 (spanN isD s)) ∧ w = w' := by
  have hsz' := Lib.hid (size_eq s)
  unfold maxLen at hs
  go_enter Tryz.func205, Tryz.ntmps205
  go_wp2_with fail
  go_loop [5] (fun i => ∃ k : Nat, k ≤ s.size ∧ i = .int .i64 k ∧ (s.data.toList.take k).all isD = true) (fun i => s.size - (intOf i).toNat)
  case atStart => exact ⟨0, by omega, rfl, by simp⟩
  case round =>
    obtain ⟨k, hk, rfl, hall⟩ := hrel
    have HA := Lib.hid hall
    clear hall
    by_cases hlt : k < s.size
    · obtain ⟨b, hb⟩ : ∃ b, s.data.toList[k]? = some b := ⟨_, List.getElem?_eq_getElem (by rw [hsz'.out]; exact hlt)⟩
      have HB := Lib.hid hb
      have eb := byte_at hlt hb
      clear hb
      generalize hP : isD b = x
      have HP := Lib.hid hP
      clear hP
      cases x with
      | true =>
        go_wp2_with fail
        refine (ldigit b _).mono ?_
        rintro e w' ⟨rfl, rfl⟩
        rw [HP.out]
        go_wp2_with fail
        go_round
        case rel => exact ⟨k + 1, by omega, by go_num, all_take_succ HA.out HB.out HP.out⟩
        case measure => simp [intOf]; omega
      | false =>
        have E := Lib.hid (tw_some HA.out HB.out HP.out)
        go_wp2_with fail
        refine (ldigit b _).mono ?_
        rintro e w' ⟨rfl, rfl⟩
        rw [HP.out]
        go_wp2_with fail
        go_ret
        exact ⟨by unfold spanN; rw [E.out]; rfl, rfl⟩
    · have hall : s.data.toList.all isD = true := by have := HA.out; rwa [List.take_of_length_le (by rw [hsz'.out]; omega)] at this
      have E := Lib.hid (tw_full hall)
      clear hall HA
      obtain rfl : k = s.size := by omega
      have E2 := Lib.hid (show spanN isD s = s.size by unfold spanN; rw [E.out, hsz'.out])
      clear E
      go_wp2_with fail
      go_ret
      exact ⟨by rw [E2.out]; rfl, rfl⟩
set_option maxHeartbeats 2000000 in
theorem span_word (s : ByteArray) (hs : s.size ≤ maxLen) (w : World) :
    Calls Tryz.prog 205 #[.string s, .func (.func 206) #[] #[]] w fun e w' => e = .returned (.int .i64 (spanN isLD s)) ∧ w = w' := by
  have hsz' := Lib.hid (size_eq s)
  unfold maxLen at hs
  go_enter Tryz.func205, Tryz.ntmps205
  go_wp2_with fail
  go_loop [5] (fun i => ∃ k : Nat, k ≤ s.size ∧ i = .int .i64 k ∧ (s.data.toList.take k).all isLD = true) (fun i => s.size - (intOf i).toNat)
  case atStart => exact ⟨0, by omega, rfl, by simp⟩
  case round =>
    obtain ⟨k, hk, rfl, hall⟩ := hrel
    have HA := Lib.hid hall
    clear hall
    by_cases hlt : k < s.size
    · obtain ⟨b, hb⟩ : ∃ b, s.data.toList[k]? = some b := ⟨_, List.getElem?_eq_getElem (by rw [hsz'.out]; exact hlt)⟩
      have HB := Lib.hid hb
      have eb := byte_at hlt hb
      clear hb
      generalize hP : isLD b = x
      have HP := Lib.hid hP
      clear hP
      cases x with
      | true =>
        go_wp2_with fail
        refine (lword b _).mono ?_
        rintro e w' ⟨rfl, rfl⟩
        rw [HP.out]
        go_wp2_with fail
        go_round
        case rel => exact ⟨k + 1, by omega, by go_num, all_take_succ HA.out HB.out HP.out⟩
        case measure => simp [intOf]; omega
      | false =>
        have E := Lib.hid (tw_some HA.out HB.out HP.out)
        go_wp2_with fail
        refine (lword b _).mono ?_
        rintro e w' ⟨rfl, rfl⟩
        rw [HP.out]
        go_wp2_with fail
        go_ret
        exact ⟨by unfold spanN; rw [E.out]; rfl, rfl⟩
    · have hall : s.data.toList.all isLD = true := by have := HA.out; rwa [List.take_of_length_le (by rw [hsz'.out]; omega)] at this
      have E := Lib.hid (tw_full hall)
      clear hall HA
      obtain rfl : k = s.size := by omega
      have E2 := Lib.hid (show spanN isLD s = s.size by unfold spanN; rw [E.out, hsz'.out])
      clear E
      go_wp2_with fail
      go_ret
      exact ⟨by rw [E2.out]; rfl, rfl⟩
-- spans end
end Go.Proofs.YtpbbkpfaphjdoaaGreatDoor
