/- Package lex: a quote, and any word, at the beginning of a text, walked. -/
import Derived.Test.YtpbbkpfaphjdoaaGreatDoorLexQuote
import Derived.Test.YtpbbkpfaphjdoaaGreatDoorLexBack0
import Derived.Test.YtpbbkpfaphjdoaaGreatDoorErrEq
namespace Go.Proofs.YtpbbkpfaphjdoaaGreatDoor
open Go.ChangeShapes Go.WideShapes Go.ChangeAt Go.RowKit

theorem qlen_skip : ∀ (a t : List UInt8), (∀ b ∈ a, b ≠ 39) → qlen (a ++ t) = (qlen t).map (· + a.length)
  | [], t, _ => by cases h : qlen t <;> simp [h]
  | x :: a, t, h => by
    rw [List.cons_append, qlen_cons (h x (by simp)), qlen_skip a t (fun b hb => h b (List.mem_cons_of_mem _ hb)), Option.map_map]
    congr 1
theorem idxB_no : ∀ {a : List UInt8}, (∀ b ∈ a, b ≠ 39) → Lib.indexByte a 39 = -1
  | [], _ => rfl
  | x :: a, h => by
    rw [Lib.indexByte, idxB_no (a := a) (fun b hb => h b (List.mem_cons_of_mem _ hb)), show (x == 39) = false by simpa using h x (by simp)]
    rfl
theorem idxB_at : ∀ {a t : List UInt8}, (∀ b ∈ a, b ≠ 39) → Lib.indexByte (a ++ 39 :: t) 39 = a.length
  | [], t, _ => rfl
  | x :: a, t, h => by
    rw [List.cons_append, Lib.indexByte, idxB_at (a := a) (fun b hb => h b (List.mem_cons_of_mem _ hb)), show (x == 39) = false by simpa using h x (by simp)]
    simp only [Bool.false_eq_true, if_false, List.length_cons]
    rw [if_neg (fun e => by have := beq_iff_eq.1 e; omega)]
    omega
/-- What lex.quote tells. -/
def quoN (r : List UInt8) : Nat := match qlen r with | none => 0 | some m => if (readQ (r.take m)).2 = 0 then m + 1 else 0
def quoE (r : List UInt8) : Int := match qlen r with | none => 2 | some m => (readQ (r.take m)).2
set_option maxHeartbeats 1000000 in
set_option maxRecDepth 100000 in
theorem quote_any (s : ByteArray) (r : List UInt8) (hl : s.data.toList = 39 :: r) (hs : s.size ≤ 400) (w : World) (hT : TextT w) :
    Calls Tryz.prog 209 #[.string s] w fun e w' => e = .returned (.tuple #[.int .i64 (quoN r), .int .i64 (quoE r)]) ∧ Below w.heap.size w w' := by
  have hsz := size_eq s
  have HSL := Lib.hid (show s.size = r.length + 1 by rw [← hsz, hl]; rfl)
  have HL := Lib.hid hl
  have TI := Lib.hid (fun n w' => Tryz.strings_IndexByte (s.extract n s.size) 39 w')
  have HEX := Lib.hid (fun n => show (s.extract n s.size).data.toList = s.data.toList.drop n by
    rw [ext_list, List.take_of_length_le (by rw [List.length_drop, hsz]; exact Nat.le_refl _)])
  have TP := Lib.hid (fun m (hm : qlen r = some m) => parseQ_any (s.extract 0 (m + 1)) (r.take m) (by rw [ext_list, hl]; rfl) (by rw [← size_eq, ext_list, List.drop_zero, List.length_take, hsz]; omega) w hT)
  clear hT
  go_enter Tryz.func209, Tryz.ntmps209
  go_wp2_with fail
  go_loop [4] (fun i => ∃ n : Nat, 1 ≤ n ∧ n ≤ s.size ∧ i = .int .i64 n ∧ qlen r = (qlen (s.data.toList.drop n)).map (· + (n - 1))) (fun i => s.size - (intOf i).toNat)
  case atStart => exact ⟨1, Nat.le_refl _, by have := HSL.out; omega, rfl, by rw [hl]; cases h : qlen r <;> simp [h]⟩
  case round =>
    obtain ⟨n, hn1, hn, rfl, hq⟩ := hrel
    have TI1 := Lib.hid (TI.out n w)
    rw [HEX.out] at TI1
    rw [show (39 : Int).toNat.toUInt8 = 39 from rfl] at TI1
    rcases split39 (s.data.toList.drop n) with hno | ⟨a, t, hd, hna⟩
    · rw [idxB_no hno] at TI1
      have hqd : qlen (s.data.toList.drop n) = none := by
        have := qlen_skip (s.data.toList.drop n) [] hno
        rwa [List.append_nil] at this
      have HN := Lib.hid (show quoN r = 0 ∧ quoE r = 2 by unfold quoN quoE; rw [hq, hqd]; exact ⟨rfl, rfl⟩)
      clear hqd hno hq hl
      go_wp2_with fail
      refine (TI1.out).mono ?_
      rintro e w1 ⟨rfl, rfl⟩
      go_wp2_with fail
      go_ret2
      rw [HN.out.1, HN.out.2]
      exact ⟨rfl, Below.refl _ _⟩
    · rw [hd, idxB_at hna] at TI1
      obtain ⟨la, hla⟩ : ∃ la, la = a.length := ⟨_, rfl⟩
      have hdl : n + (la + 1) + t.length = s.size := by
        have := congrArg List.length hd
        rw [List.length_drop, hsz] at this
        simp at this
        omega
      have hqd : qlen (s.data.toList.drop n) = (qlen (39 :: t)).map (· + la) := by rw [hd, qlen_skip a _ hna, hla]
      have hdr : s.data.toList.drop (n + (la + 1)) = t := by
        rw [← List.drop_drop, hd, ← List.drop_drop, hla, List.drop_left]; rfl
      rw [← hla] at TI1
      clear hla
      by_cases hh : t.head? = some 39
      · obtain ⟨t', rfl⟩ : ∃ t', t = 39 :: t' := by
          cases t with
          | nil => cases hh
          | cons x t' => exact ⟨t', by rw [show x = 39 by simpa using hh]⟩
        have hlt : n + (la + 1) < s.size := by simp at hdl; omega
        have hb := byte_at hlt (b := 39) (by rw [← List.head?_drop, hdr]; rfl)
        have e1 : ((n : Int) + ((la : Int) + 1) == (s.size : Int)) = false := beq_eq_false_iff_ne.2 (by omega)
        have e2 : (((s[n + (la + 1)]'hlt).toNat : Int) != 39) = false := by rw [hb]; rfl
        have HNX := Lib.hid (show qlen r = (qlen (s.data.toList.drop (n + (la + 1) + 1))).map (· + (n + (la + 1) + 1 - 1)) by
          rw [hq, hqd, qlen_two, ← List.drop_drop, hdr]
          show _ = (qlen t').map _
          cases qlen t' with
          | none => rfl
          | some z => simp; omega)
        clear hq hqd hd hdr hna hh hb hl hdl
        go_wp2_with fail
        refine (TI1.out).mono ?_
        rintro e w1 ⟨rfl, rfl⟩
        go_wp2_with fail
        go_round
        case rel => exact ⟨n + (la + 1) + 1, by omega, by omega, by go_num, HNX.out⟩
        case measure => simp [intOf]; omega
      · have hqr : qlen r = some (n + la) := by
          rw [hq, hqd, qlen_end hh]
          simp; omega
        have TP1 := Lib.hid (TP.out (n + la) hqr)
        have HN := Lib.hid (show quoN r = (if (readQ (r.take (n + la))).2 = 0 then n + (la + 1) else 0) ∧ quoE r = (readQ (r.take (n + la))).2 by unfold quoN quoE; rw [hqr]; exact ⟨rfl, rfl⟩)
        have he := readQ_err (r.take (n + la))
        generalize (readQ (r.take (n + la))).1 = v at TP1
        generalize (readQ (r.take (n + la))).2 = k at TP1 HN he
        have hbr : (n + (la + 1) = s.size) ∨ ∃ hlt : n + (la + 1) < s.size, (((s[n + (la + 1)]'hlt).toNat : Int) != 39) = true := by
          by_cases hlt : n + (la + 1) < s.size
          · refine Or.inr ⟨hlt, ?_⟩
            have hb := byte_at hlt (List.getElem?_eq_getElem (by rw [hsz]; exact hlt))
            rw [hb]
            refine bne_iff_ne.2 (fun e => hh ?_)
            rw [← hdr, List.head?_drop, List.getElem?_eq_getElem (by rw [hsz]; exact hlt)]
            congr 1
            apply UInt8.toNat_inj.1
            show _ = 39
            omega
          · exact Or.inl (by omega)
        clear hq hqd hd hdr hna hh hl hqr
        rcases hbr with hme | ⟨hlt, e2⟩
        · have e1 : ((n : Int) + ((la : Int) + 1) == (s.size : Int)) = true := by rw [← hme]; exact beq_iff_eq.2 (by omega)
          clear hme
          go_wp2_with fail
          refine (TI1.out).mono ?_
          rintro e w1 ⟨rfl, rfl⟩
          go_wp2_with fail
          refine (TP1.out).mono ?_
          rintro e w2 ⟨rfl, hb2⟩
          have HB2 := Lib.hid hb2
          clear hb2
          rcases he with rfl | rfl | rfl
          · unfold valV
            rw [errV_zero]
            have q4 := nilEq 4
            go_wp2_with fail
            go_ret2
            rw [HN.out.1, HN.out.2]
            exact ⟨rfl, HB2.out.trans ((belowNew' _ _).mono HB2.out.size)⟩
          · unfold valV
            rw [errV_ne (by decide)]
            have q4 := errEq 2 4
            go_wp2_with fail
            go_ret2
            rw [HN.out.1, HN.out.2]
            exact ⟨rfl, HB2.out.trans ((belowNew' _ _).mono HB2.out.size)⟩
          · unfold valV
            rw [errV_ne (by decide)]
            have q4 := errEq 4 4
            go_wp2_with fail
            go_ret2
            rw [HN.out.1, HN.out.2]
            exact ⟨rfl, HB2.out.trans ((belowNew' _ _).mono HB2.out.size)⟩
        · have e1 : ((n : Int) + ((la : Int) + 1) == (s.size : Int)) = false := beq_eq_false_iff_ne.2 (by omega)
          go_wp2_with fail
          refine (TI1.out).mono ?_
          rintro e w1 ⟨rfl, rfl⟩
          go_wp2_with fail
          refine (TP1.out).mono ?_
          rintro e w2 ⟨rfl, hb2⟩
          have HB2 := Lib.hid hb2
          clear hb2
          rcases he with rfl | rfl | rfl
          · unfold valV
            rw [errV_zero]
            have q4 := nilEq 4
            go_wp2_with fail
            go_ret2
            rw [HN.out.1, HN.out.2]
            exact ⟨rfl, HB2.out.trans ((belowNew' _ _).mono HB2.out.size)⟩
          · unfold valV
            rw [errV_ne (by decide)]
            have q4 := errEq 2 4
            go_wp2_with fail
            go_ret2
            rw [HN.out.1, HN.out.2]
            exact ⟨rfl, HB2.out.trans ((belowNew' _ _).mono HB2.out.size)⟩
          · unfold valV
            rw [errV_ne (by decide)]
            have q4 := errEq 4 4
            go_wp2_with fail
            go_ret2
            rw [HN.out.1, HN.out.2]
            exact ⟨rfl, HB2.out.trans ((belowNew' _ _).mono HB2.out.size)⟩
end Go.Proofs.YtpbbkpfaphjdoaaGreatDoor
