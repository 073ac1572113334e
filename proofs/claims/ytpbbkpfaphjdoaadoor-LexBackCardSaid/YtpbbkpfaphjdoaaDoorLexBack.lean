/- LexBack: what lies between words is blank; each stands where it is said; joined, they are the same words. No conditions. -/
import Derived.Test.YtpbbkpfaphjdoaaDoorLexAll
import Derived.Test.YtpbbkpfaphjdoaaDoorRdParse
import Derived.Test.YtpbbkpfaphjdoaaDoorTold
import Derived.Test.YtpbbkpfaphjdoaaDoorCards
import Derived.Test.YtpbbkpfaphjdoaaDoorTie
import Derived.Stop.Joined
import Derived.SevenTiedAt
import Derived.Deep.DeepWitnessRowRef
import Derived.Deep.DeepHandedRow
namespace Go.Proofs.YtpbbkpfaphjdoaaDoor.lexBack
open Go.ChangeShapes Go.WideShapes Go.ChangeAt Go.RowKit

theorem fact : lexS [97, 60, 61, 32, 39, 98, 39, 39, 99, 39] = .ok [⟨1, [97], 0⟩, ⟨4, [60, 61], 1⟩, ⟨3, [39, 98, 39, 39, 99, 39], 4⟩] := by
  rw [lexS_len (by decide), lexP_tok (n := 1) (k := 1) (by decide) (by decide)]
  show (lexP [60, 61, 32, 39, 98, 39, 39, 99, 39] 1).pre _ = _
  rw [lexP_tok (n := 2) (k := 4) (by decide) (by decide)]
  show ((lexP [32, 39, 98, 39, 39, 99, 39] 3).pre _).pre _ = _
  rw [lexP_blank (by decide), lexP_tok (n := 6) (k := 3) (by decide) (by decide)]
  show (((lexP [] _).pre _).pre _).pre _ = _
  rw [lexP_nil]; rfl
/-- Where a word stands, the words behind it. -/
theorem chain_at {s : List UInt8} : ∀ {l : List Tok} {a : Nat}, Chain s a l → ∀ (k : Nat) (t : Tok), l[k]? = some t →
    ∃ b, (k = 0 → b = a) ∧ (∀ j u, k = j + 1 → l[j]? = some u → b = u.at_ + u.text.length) ∧ b ≤ t.at_ ∧ t.at_ + t.text.length ≤ s.length ∧ (∀ i, b ≤ i → i < t.at_ → blankAt s i) ∧ (s.drop t.at_).take t.text.length = t.text ∧ 1 ≤ t.text.length
  | x :: l, a, h, 0, t, ht => by
    obtain rfl : x = t := by simpa using ht
    exact ⟨a, fun _ => rfl, fun j u hj => by omega, h.1, h.2.1, h.2.2.1, h.2.2.2.1, h.2.2.2.2.1.len⟩
  | x :: l, a, h, k + 1, t, ht => by
    obtain ⟨b, h1, h2, h3⟩ := chain_at h.2.2.2.2.2 k t (by simpa using ht)
    refine ⟨b, fun e => by omega, fun j u hj hu => ?_, h3⟩
    cases k with
    | zero =>
      obtain rfl : j = 0 := by omega
      obtain rfl : x = u := by simpa using hu
      exact h1 rfl
    | succ k =>
      obtain rfl : j = k + 1 := by omega
      exact h2 k u rfl (by simpa using hu)
theorem chain_end {s : List UInt8} : ∀ {l : List Tok} {a : Nat}, Chain s a l → (∀ t, l.getLast? = some t → t.at_ + t.text.length ≤ s.length ∧ ∀ i, t.at_ + t.text.length ≤ i → i < s.length → blankAt s i) ∧ (l = [] → a ≤ s.length ∧ ∀ i, a ≤ i → i < s.length → blankAt s i)
  | [], a, h => ⟨fun t ht => (by cases ht), fun _ => h⟩
  | x :: l, a, h => by
    refine ⟨fun t ht => ?_, fun e => by cases e⟩
    obtain ⟨h1, h2⟩ := chain_end h.2.2.2.2.2
    cases l with
    | nil =>
      obtain rfl : x = t := by simpa using ht
      exact h2 rfl
    | cons y l => exact h1 t (by simpa using ht)
/-- Where the k-th gap begins. -/
def gapB (l : List Tok) (k : Nat) : Nat := if k = 0 then 0 else match l[k - 1]? with | some u => u.at_ + u.text.length | none => 0
def gapE (s : List UInt8) (l : List Tok) (k : Nat) : Nat := match l[k]? with | some t => t.at_ | none => s.length
theorem gapB_next {l : List Tok} {k : Nat} {u : Tok} (h : l[k]? = some u) : gapB l (k + 1) = u.at_ + u.text.length := by unfold gapB; rw [if_neg (by omega), Nat.add_sub_cancel, h]
theorem gapE_at {s : List UInt8} {l : List Tok} {k : Nat} {u : Tok} (h : l[k]? = some u) : gapE s l k = u.at_ := by unfold gapE; rw [h]
theorem gapE_end {s : List UInt8} {l : List Tok} : gapE s l l.length = s.length := by unfold gapE; rw [List.getElem?_eq_none (Nat.le_refl _)]
theorem gap_ok {s : List UInt8} {l : List Tok} (h : Chain s 0 l) {k : Nat} (hk : k ≤ l.length) : gapB l k ≤ gapE s l k ∧ gapE s l k ≤ s.length ∧ ∀ i, gapB l k ≤ i → i < gapE s l k → blankAt s i := by
  rcases Nat.lt_or_ge k l.length with hlt | hge
  · obtain ⟨t, ht⟩ : ∃ t, l[k]? = some t := ⟨_, List.getElem?_eq_getElem hlt⟩
    obtain ⟨b, h1, h2, h3, h4, h5, _⟩ := chain_at h k _ ht
    have hb : gapB l k = b := by
      cases k with
      | zero => exact (h1 rfl).symm
      | succ j =>
        obtain ⟨u, hu⟩ : ∃ u, l[j]? = some u := ⟨_, List.getElem?_eq_getElem (by omega)⟩
        rw [gapB_next hu]
        exact (h2 j u rfl hu).symm
    rw [hb, gapE_at ht]
    exact ⟨h3, by omega, h5⟩
  · obtain rfl : k = l.length := by omega
    obtain ⟨h1, h2⟩ := chain_end h
    rw [gapE_end]
    rcases Nat.eq_zero_or_pos l.length with hl | hl
    · obtain rfl := List.eq_nil_of_length_eq_zero hl
      have := h2 rfl
      exact ⟨this.1, Nat.le_refl _, this.2⟩
    · obtain ⟨u, hu⟩ : ∃ u, l[l.length - 1]? = some u := ⟨_, List.getElem?_eq_getElem (by omega)⟩
      have := h1 u (by rw [List.getLast?_eq_getElem?]; exact hu)
      have hb := gapB_next hu
      rw [Nat.sub_add_cancel hl] at hb
      rw [hb]
      exact ⟨this.1, Nat.le_refl _, this.2⟩
set_option maxHeartbeats 4000000 in
set_option maxRecDepth 100000 in
theorem walk (s : ByteArray) (hs : s.size ≤ maxLen) (W : World) (hT : TextT W) (hN : NumT W) (hS : SignsT W) :
    Calls Tryd.prog 7 #[.string s] W fun e W' => e = .returned (.bool true) ∧ Below W.heap.size W W' := by
  have hsz' := Lib.hid (size_eq s)
  have TT := Lib.hid (fun s (hs : s.size ≤ maxLen) w' (hb : Below W.heap.size W w') => tokens_hp s hs w' (hT.keep hb) (hN.keep hb) (hS.keep hb))
  clear hT hN hS
  go_enter Tryd.func7, Tryd.ntmps7
  go_wp2_with fail
  refine (TT.out ⟨#[97, 60, 61, 32, 39, 98, 39, 39, 99, 39]⟩ (by decide) W (Below.refl _ _)).mono ?_
  rw [show (⟨#[97, 60, 61, 32, 39, 98, 39, 39, 99, 39]⟩ : ByteArray).data.toList = [97, 60, 61, 32, 39, 98, 39, 39, 99, 39] from rfl, fact]
  rintro e w1 ⟨A1, n1, c1, h1, p1, rfl, hh1, -, hs1, hb1⟩
  obtain rfl : 3 = n1 := hs1.1
  have z1 : (h1 != 0) = false := by rw [hh1]; rfl
  clear hh1
  obtain ⟨w2, hw2⟩ : ∃ w2, w1.alloc (.cells #[.int .i64 h1, .int .i64 p1] 47) = w2 := ⟨_, rfl⟩
  have hbx := belowNew' w1 (.cells #[.int .i64 h1, .int .i64 p1] 47)
  rw [hw2] at hbx
  have hb2 := below_step hb1 hbx
  obtain ⟨g, o, x, rfl, hg, hx, -, c4, -⟩ := (hs1.keep hbx).at_ (k := 1) (by omega)
  obtain rfl : ⟨4, [60, 61], 1⟩ = x := Option.some.inj hx
  obtain ⟨g', o', y, e2, -, hy, -, -, c8⟩ := (hs1.keep hbx).at_ (k := 2) (by omega)
  obtain rfl : ⟨3, [39, 98, 39, 39, 99, 39], 4⟩ = y := Option.some.inj hy
  injection e2 with e2
  injection e2 with e2 e3
  subst e2 e3
  have k0 : w2.cell? ⟨w1.heap.size, 0, none⟩ = some (.int .i64 h1) := by rw [← hw2]; simp
  have HW2 := Lib.hid hw2
  have HB2 := Lib.hid hb2
  have hcc := hs1.2.2.1
  have hcm := hs1.2.2.2.1
  unfold maxLen at hcm
  clear hs1 hb1 hbx hb2 hw2 hx hy
  go_wp2_with (first | rw [HW2.out])
  clear c4 c8 k0 z1 hcc hcm hg
  refine (TT.out s hs w2 HB2.out).mono ?_
  rintro e w3 ⟨A2, n2, c2, h2, p2, rfl, hh2, hp2, hs2, hb3⟩
  obtain ⟨w4, hw4⟩ : ∃ w4, w3.alloc (.cells #[.int .i64 h2, .int .i64 p2] 47) = w4 := ⟨_, rfl⟩
  have hbx := belowNew' w3 (.cells #[.int .i64 h2, .int .i64 p2] 47)
  rw [hw4] at hbx
  have HB4 := Lib.hid (below_step (below_step HB2.out hb3) hbx)
  have HS4 := Lib.hid (hs2.keep hbx)
  have k2 : w4.cell? ⟨w3.heap.size, 0, none⟩ = some (.int .i64 h2) := by rw [← hw4]; simp
  have k3 : w4.cell? ⟨w3.heap.size, 1, none⟩ = some (.int .i64 p2) := by rw [← hw4]; simp
  have HW4 := Lib.hid hw4
  have hcc := hs2.2.2.1
  have hcm := hs2.2.2.2.1
  have hn2 := hs2.1
  unfold maxLen at hcm hs
  clear hb3 hbx hw4 hs2
  cases hL : lexS s.data.toList with
  | bad er q =>
    obtain ⟨he, hq⟩ := lexS_bad hL
    rw [hL] at hh2 hp2 hn2
    have z2 : (h2 != 0) = true := by rw [hh2]; exact bne_iff_ne.2 he
    obtain rfl : 0 = n2 := hn2
    have d0 : decide (0 ≤ p2) = true := decide_eq_true (by rw [hp2]; exact Int.natCast_nonneg _)
    have d1 : decide (p2 ≤ (s.size : Int)) = true := decide_eq_true (by rw [hp2, ← hsz'.out]; show (q : Int) ≤ _; omega)
    clear hh2 hp2 hL HS4 he hq
    go_wp2_with (first | rw [HW4.out])
    go_ret
    exact ⟨rfl, HB4.out⟩
  | ok l =>
    have z2 : (h2 != 0) = false := by rw [hh2, hL]; rfl
    obtain ⟨h400, hch⟩ := lexS_ok hL
    have HTX := Lib.hid (fun t (ht : t ∈ l) => Nat.le_trans (hch.text t ht) h400)
    have hlen : n2 ≤ 400 := by have := hch.count; rw [← hn2, hL]; show l.length ≤ 400; omega
    have HOK := Lib.hid hch.all
    rw [hL] at HS4 hn2
    have HN2 := Lib.hid (show l.length = n2 from hn2)
    have HG := Lib.hid (fun k (hk : k ≤ n2) => gap_ok hch (k := k) (by rw [HN2.out]; exact hk))
    have HC := Lib.hid (chain_at hch)
    have hsm : s.size ≤ 400 := by rw [← hsz'.out]; exact h400
    clear hh2 hp2 hL hn2 hch h400 k3
    go_wp2_with (first | rw [HW4.out])
    clear k2 z2
    go_loopw [7, 8] (fun at_ iv wx => ∃ k : Nat, k ≤ n2 ∧ iv = .int .i64 k ∧ at_ = .int .i64 (gapB l k) ∧ wx = w4) (fun _ iv _ => n2 + 1 - (intOf iv).toNat)
    case atStart => exact ⟨0, by omega, rfl, rfl, rfl⟩
    case round =>
      obtain ⟨k, hk, rfl, rfl, rfl⟩ := hrel
      obtain ⟨g1, g2, g3⟩ := HG.out k hk
      rw [hsz'.out] at g2
      have HBL := Lib.hid g3
      clear g3
      by_cases hkn : k < n2
      · obtain ⟨g, o, x, rfl, hg, hx, -, c1, c2⟩ := HS4.out.at_ hkn
        have hx : l[k]? = some x := hx
        obtain ⟨_, -, -, -, q4, -, q6, q7⟩ := HC.out k x hx
        have hE := gapE_at (s := s.data.toList) hx
        have hB := gapB_next hx
        obtain ⟨E, hEd⟩ : ∃ E, E = x.at_ := ⟨_, rfl⟩
        rw [hE, ← hEd] at g1 g2 HBL
        rw [hsz'.out, ← hEd] at q4
        rw [← hEd] at c2 hB q6
        obtain ⟨tb, htb⟩ : ∃ tb : ByteArray, tb = ⟨x.text.toArray⟩ := ⟨_, rfl⟩
        rw [← htb] at c1
        have hts : tb.size = x.text.length := by rw [htb]; rfl
        have htl : tb.data.toList = x.text := by rw [htb]
        rw [← hts] at q4 q7 hB
        have HB1 := Lib.hid hB
        have t0 := str_some (s := tb) (by rw [htl]; intro e; rw [hts, e] at q7; exact absurd q7 (by decide))
        have d1 : decide ((E : Int) < (gapB l k : Int)) = false := decide_eq_false (by omega)
        have d2 : decide ((s.size : Int) < (E : Int)) = false := decide_eq_false (by omega)
        have d3 : decide ((s.size : Int) - (E : Int) < (tb.size : Int)) = false := decide_eq_false (by omega)
        have hext : s.extract E (E + tb.size) = tb := by rw [ext_mid, hts, q6, htb]
        have e3 : ((s.extract E (E + tb.size)).toList == tb.toList) = true := by rw [hext]; simp
        have e4 : ((k : Int) == (n2 : Int)) = false := beq_eq_false_iff_ne.2 (by omega)
        clear hx hE hB hEd htb hts htl q6 hext hg
        go_wp2_with fail
        go_loopw [10] (fun jv wx => ∃ j : Nat, gapB l k ≤ j ∧ j ≤ E ∧ jv = .int .i64 j ∧ wx = wr) (fun jv _ => E - (intOf jv).toNat)
        case atStart => exact ⟨gapB l k, Nat.le_refl _, g1, rfl, rfl⟩
        case round =>
          obtain ⟨j, hj1, hj2, rfl, rfl⟩ := hrel
          by_cases hjE : j < E
          · obtain ⟨b, hb, hbl⟩ := HBL.out j hj1 hjE
            have hjs : j < s.size := by omega
            have eb := byte_at hjs hb
            clear hb
            rcases hbl with rfl | rfl
            · have e1 : (((s[j]'hjs).toNat : Int) != 32) = false := by rw [eb]; rfl
              clear eb
              go_wp2_with fail
              go_roundw
              case rel => exact ⟨j + 1, by omega, by omega, by go_num, by first | trivial | rfl⟩
              case measure => simp [intOf]; omega
            · have e1 : (((s[j]'hjs).toNat : Int) != 32) = true := by rw [eb]; rfl
              have e2 : (((s[j]'hjs).toNat : Int) != 10) = false := by rw [eb]; rfl
              clear eb
              go_wp2_with fail
              go_roundw
              case rel => exact ⟨j + 1, by omega, by omega, by go_num, by first | trivial | rfl⟩
              case measure => simp [intOf]; omega
          · obtain rfl : j = E := by omega
            go_wp2_with fail
            go_roundw
            case rel => exact ⟨k + 1, by omega, by go_num, by rw [HB1.out]; go_num, by first | trivial | rfl⟩
            case measure => simp [intOf]; omega
      · obtain rfl : k = n2 := by omega
        have hE : gapE s.data.toList l k = s.size := by rw [← HN2.out, gapE_end, hsz'.out]
        obtain ⟨E, hEd⟩ : ∃ E, E = s.size := ⟨_, rfl⟩
        rw [hE] at g1 g2 HBL
        rw [← hEd] at g1 HBL
        have d1 : decide ((s.size : Int) < (gapB l k : Int)) = false := decide_eq_false (by omega)
        have TJ := Lib.hid (join_any A2 k c2 l wr HS4.out hlen HTX.out)
        have hjl := join_len l HTX.out
        have HJ := Lib.hid (lex_join l 0 HOK.out)
        rw [HN2.out] at hjl
        generalize Lib.join (l.map (·.text)) [32] = ct at TJ hjl HJ
        clear hE
        subst hEd
        go_wp2_with fail
        go_loopw [10] (fun jv wx => ∃ j : Nat, gapB l k ≤ j ∧ j ≤ s.size ∧ jv = .int .i64 j ∧ wx = wr) (fun jv _ => s.size - (intOf jv).toNat)
        case atStart => exact ⟨gapB l k, Nat.le_refl _, g1, rfl, rfl⟩
        case round =>
          obtain ⟨j, hj1, hj2, rfl, rfl⟩ := hrel
          by_cases hjE : j < s.size
          · obtain ⟨b, hb, hbl⟩ := HBL.out j hj1 hjE
            have hjs : j < s.size := by omega
            have eb := byte_at hjs hb
            clear hb
            rcases hbl with rfl | rfl
            · have e1 : (((s[j]'hjs).toNat : Int) != 32) = false := by rw [eb]; rfl
              clear eb
              go_wp2_with fail
              go_roundw
              case rel => exact ⟨j + 1, by omega, by omega, by go_num, by first | trivial | rfl⟩
              case measure => simp [intOf]; omega
            · have e1 : (((s[j]'hjs).toNat : Int) != 32) = true := by rw [eb]; rfl
              have e2 : (((s[j]'hjs).toNat : Int) != 10) = false := by rw [eb]; rfl
              clear eb
              go_wp2_with fail
              go_roundw
              case rel => exact ⟨j + 1, by omega, by omega, by go_num, by first | trivial | rfl⟩
              case measure => simp [intOf]; omega
          · obtain rfl : j = s.size := by omega
            go_wp2_with fail
            refine (TJ.out).mono ?_
            rintro e w5 ⟨rfl, hb5⟩
            have HB5 := Lib.hid (below_step HB4.out hb5)
            have HL5 := Lib.hid (HS4.out.keep hb5)
            clear hb5
            go_wp2_with fail
            refine (TT.out ⟨ct.toArray⟩ (by unfold maxLen; show ct.length ≤ _; omega) w5 HB5.out).mono ?_
            rw [show (⟨ct.toArray⟩ : ByteArray).data.toList = ct from rfl]
            rintro e w6 ⟨A3, n3, c3, h3, p3, rfl, hh3, hp3, hs3, hb6⟩
            obtain ⟨w7, hw7⟩ : ∃ w7, w6.alloc (.cells #[.int .i64 h3, .int .i64 p3] 47) = w7 := ⟨_, rfl⟩
            have hbx := belowNew' w6 (.cells #[.int .i64 h3, .int .i64 p3] 47)
            rw [hw7] at hbx
            have HB7 := Lib.hid (below_step (below_step HB5.out hb6) hbx)
            have HS7 := Lib.hid (hs3.keep hbx)
            have HL7 := Lib.hid (HL5.out.keep ((hb6.trans (hbx.mono hb6.size))))
            have k5 : w7.cell? ⟨w6.heap.size, 0, none⟩ = some (.int .i64 h3) := by rw [← hw7]; simp
            have HW7 := Lib.hid hw7
            have hcc3 := hs3.2.2.1
            have hcm3 := hs3.2.2.2.1
            have hn3 := hs3.1
            unfold maxLen at hcm3
            clear hb6 hbx hw7 hs3
            unfold lexS at hh3 hn3 HS7
            by_cases h4 : 400 < ct.length
            · rw [if_pos h4] at hh3
              have d4 : decide ((400 : Int) < (ct.length : Int)) = true := decide_eq_true (by omega)
              have e4 : (h3 == 4) = true := by rw [hh3]; rfl
              clear h4 hh3 hn3 HS7 hp3
              go_wp2_with (first | rw [HW7.out])
              go_ret
              exact ⟨rfl, HB7.out⟩
            · obtain ⟨m, hm1, hm2⟩ := HJ.out
              rw [if_neg h4, hm1] at hh3 hn3 HS7
              have d4 : decide ((400 : Int) < (ct.length : Int)) = false := decide_eq_false (by omega)
              have e4 : (h3 != 0) = false := by rw [hh3]; rfl
              have hml : m.length = l.length := hm2.len
              have hnk : n3 = k := by
                have h1 := HN2.out
                have h2 : m.length = n3 := hn3
                omega
              have HM2 := Lib.hid hm2
              clear h4 hh3 hn3 hml hm1 hm2 hp3
              subst hnk
              have e5 : ((n3 : Int) != (n3 : Int)) = false := by simp
              go_wp2_with (first | rw [HW7.out])
              go_loopw [15] (fun iv wx => ∃ q : Nat, q ≤ n3 ∧ iv = .int .i64 q ∧ Below w7.heap.size w7 wx) (fun iv _ => n3 - (intOf iv).toNat)
              case atStart => exact ⟨0, by omega, rfl, Below.refl _ _⟩
              case round =>
                obtain ⟨q, hq, rfl, hb⟩ := hrel
                have HB := Lib.hid hb
                by_cases hqn : q < n3
                · obtain ⟨g, o, x, rfl, -, hx, a0, a1, -⟩ := (HL7.out.keep hb).at_ hqn
                  obtain ⟨g2, o2, y, rfl, -, hy, b0, b1, -⟩ := (HS7.out.keep hb).at_ hqn
                  obtain ⟨q1, q2⟩ := HM2.out.at_ q y x hy hx
                  rw [q1] at b0
                  rw [q2] at b1
                  clear hb hx hy q1 q2
                  go_wp2_with fail
                  go_quiet (fail)
                  go_wp2_with fail
                  go_roundw
                  case rel => exact ⟨q + 1, by omega, by go_num, below_drewN HB.out nq⟩
                  case measure => simp [intOf]; omega
                · clear hb
                  go_wp2_with fail
                  go_ret
                  exact ⟨rfl, below_step HB7.out HB.out⟩
/-- The world of the witness: the door's, the row's tables laid over it. -/
noncomputable def theWorld (os : Os) : World := (World.doorLaid Tryd.prog 4000 os).layVars Tryd.prog (Rows.lexBackRow.laid.filter fun x => x.2.handleName?.isNone)

set_option maxRecDepth 100000 in
theorem contract (H : Type) (enc : TypeId × Value → H) (W : World) (base : Nat) (args : Array Value) (ds gs : List (DataW H)) (before : List MemPlace)
    (hval : ∀ (j : Nat) t v, Tryd.f7.params[j]? = some t → args[j]? = some v → Value.okWide Tryd.prog W .any base t v)
    (hW : DataW.Whole enc Tryd.prog Tryd.f7.params.toList Rows.lexBackSpec.vars false W args.toList ds gs before)
    (hsz : (DataW.weightsEach Tryd.prog (Tryd.f7.params.toList ++ (OpenSpec.ofChange Rows.lexBackSpec).bare.plain.varTypes Tryd.prog) (ds ++ gs)).all (· ≤ reachBytes) = true) (hL : laidMetH Tryd.prog Rows.lexBackRow.laid W) (hsh : W.ShapedOpen Tryd.prog) :
    Calls Tryd.prog 7 args W fun e W' => ∃ v, e = .returned v ∧ Rows.lexBackSpec.post enc Tryd.prog Tryd.f7 false true false false W args v W' := by
  have hW' := hW
  obtain ⟨p, q, hA0, hV, rfl, hfz, hnd⟩ := hW
  have hA : DataW.TrodAll enc Tryd.prog W 0 (fun _ => true) true Tryd.f7.params.toList args.toList ds p := hA0
  rw [Tryd.params7] at hA hval
  obtain ⟨v0, vs0, d0, ds0, p0, q0, hargs, rfl, rfl, h0, r0⟩ := trodAll_cons hA
  obtain ⟨rfl, rfl, rfl⟩ := trodAll_nil r0
  obtain rfl : args = #[v0] := by cases args; simp_all
  obtain ⟨rfl, rfl⟩ := trodVars_none hV
  obtain ⟨a0, rfl, rfl, rfl, w0⟩ := Go.ChangeMaps.open_string Tryd.underlying9 (hval 0 9 v0 rfl rfl) h0
  have hL0 : laidMet Tryd.prog [("math/bits.deBruijn32tab", Rows.laid_math_bits_deBruijn32tab), ("math/bits.deBruijn64tab", Rows.laid_math_bits_deBruijn64tab), ("internal/strconv.uint64pow10", Rows.laid_internal_strconv_uint64pow10), ("unicode/utf8.acceptRanges", Rows.laid_unicode_utf8_acceptRanges), ("strconv.ErrRange", Rows.laid_strconv_ErrRange), ("strconv.ErrSyntax", Rows.laid_strconv_ErrSyntax), ("sluicebook/lex.signs", Rows.laid_sluicebook_lex_signs), ("unicode/utf8.first", Rows.laid_unicode_utf8_first)] W := hL
  refine (walk a0 w0 W (textT_of hL0 (.tail _ (.tail _ (.head _))) hsh) (numT_of hL0.tail.tail.tail.tail) (signsT_of hL0 (.tail _ (.tail _ (.tail _ (.tail _ (.tail _ (.tail _ (.head _))))))))).mono fun e W' ⟨he, hb⟩ => ?_
  subst he
  exact ⟨_, rfl, law_post laidOut Tryd.underlying4 (by kernel_rfl) rfl (by rw [Tryd.params7]; intro t ht; simp only [List.mem_cons, List.not_mem_nil, or_false] at ht; rcases ht with rfl; all_goals exact ⟨by kernel_rfl, of_decide_eq_true (by kernel_rfl)⟩) hW' rfl hb⟩

theorem reads (os : Os) {H : Type} (enc : TypeId × Value → H) : ∃ places, DataW.whole enc Tryd.prog ((theWorld os).forCall (fun _ _ => 0) ⟨#[], #[.string .empty], []⟩).memory Tryd.f7.params.toList Rows.lexBackSpec.vars false (#[.string .empty] : Array Value).toList 8 = some ([.lit (.string [])], [], places) :=
  ⟨[], by kernel_rfl⟩

set_option maxRecDepth 100000 in
theorem lifted (os : Os) (started : os.Started) (H : Type) (enc : TypeId × Value → H) (F : Stop.Interp) :
    ReturnsInHanded {} Tryd.checked os 7 .any ((OpenSpec.ofChange Rows.lexBackSpec).preRow enc Tryd.prog Tryd.f7 Rows.lexBackRow.domain false Rows.lexBackRow.laid) (((OpenSpec.ofChange Rows.lexBackSpec).at F).post enc Tryd.prog Tryd.f7 false true false false) := by
  obtain ⟨places, hx⟩ := reads os enc
  refine returnsInHanded_of_row (C := Tryd.checked) (s := OpenSpec.ofChange Rows.lexBackSpec) own started (by kernel_rfl) Tryd.func7
    (witness_row_atRef (enc := enc) (C := Tryd.checked) false (theWorld os) #[.string .empty] (World.layVars_os _ _ _) (by kernel_rfl) (by kernel_rfl) (by kernel_rfl)
      (OpenSpec.preRow_of_cond 8 hx (by kernel_rfl) (fun k hk => by cases hk) (by kernel_rfl) (laidMetH_of_parts (laidMet_over (w0 := World.doorLaid Tryd.prog 4000 os) rfl (by kernel_rfl) (by kernel_rfl)) (by kernel_rfl)))) ?_
  intro W base args ds gs before hval hW _ _ hsz hL hsh _
  exact contract H enc W base args ds gs before hval hW hsz hL hsh

theorem said : Rows.LexBackSaid :=
  OpenClaim.holds_of_cond 7 Tryd.f7 rfl rfl rfl rfl rfl rfl rfl ⟨rfl, rfl, rfl, rfl, rfl⟩ rfl rfl rfl rfl rfl (by kernel_rfl) Tryd.func7 (by kernel_rfl)
    (of_decide_eq_true (by kernel_rfl)) (by unfold Func.isWrapper; first | (rw [if_pos (by decide +kernel)]; kernel_rfl) | (rw [if_neg (by decide +kernel)]; exact ⟨rfl, rfl⟩))
    (fun os started H enc _ F => by rw [OpenClaim.pre_eq_preRow]; exact lifted os started H enc F)

theorem plain (f : FuncId) (fn : Func) (hf : Tryd.pinned.checked.prog.funcNamed "sluicebook/sluicelaw1.LexBack" = some f) (hfn : Tryd.pinned.checked.prog.funcs[f]? = some fn) :
    true = Tryd.pinned.checked.prog.looks [] ∧ ∀ (j : Nat) t, fn.params[j]? = some t → Tryd.pinned.checked.prog.wantsStandIn t = false := by
  obtain rfl : f = 7 := Option.some.inj ((show Tryd.prog.funcNamed "sluicebook/sluicelaw1.LexBack" = some 7 by kernel_rfl).symm.trans hf) |>.symm
  obtain rfl : fn = Tryd.f7 := (Option.some.inj (Tryd.func7.symm.trans hfn)).symm
  refine ⟨by kernel_rfl, fun j t ht => ?_⟩
  rw [Tryd.params7] at ht
  have hm := Array.mem_of_getElem? ht
  simp only [List.mem_toArray, List.mem_cons, List.not_mem_nil, or_false] at hm
  rcases hm with rfl
  · exact (show Tryd.prog.wantsStandIn 9 = false by kernel_rfl)

theorem card : Rows.LexBackCardSaid :=
  Claim7.holds_tied_plain_at .later [] _ _ _ _ said (fun _ h => by cases h) (by kernel_rfl) (fun _ h => by cases h) lexBack_row_tie rfl ⟨rfl, rfl⟩ (by kernel_rfl) rfl plain (by kernel_rfl)
#print axioms card
end Go.Proofs.YtpbbkpfaphjdoaaDoor.lexBack
