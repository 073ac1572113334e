/- tree.Reader's Expr, Done, NewReader, walked. tree.Reader's call, walked: len, if: what they are called with. tree.Reader's call, walked: len, if, with a bracket behind: their arguments. -/
import Derived.Test.YtpbbkpfaphjdoaaGreatDoorRdGo
namespace Go.Proofs.YtpbbkpfaphjdoaaGreatDoor
open Go.ChangeShapes Go.WideShapes Go.ChangeAt Go.RowKit

set_option maxHeartbeats 4000000 in
set_option maxRecDepth 100000 in
theorem expr_any {T : List Tok} {E : Nat} {i : Nat} {r : PR} (wB w : World) (rb : Nat) (A : Option Addr) (c : Nat) (hR : RdAt T E w rb A c i) (hE : Env wB w rb)
    (IH : ∀ w' : World, RdAt T E w' rb A c i → Env wB w' rb → Calls Tryz.prog 147 #[.pointer (some ⟨rb, 0, none⟩), .int .i64 0] w' (RSays T E rb A c w' r)) :
    Calls Tryz.prog 82 #[.pointer (some ⟨rb, 0, none⟩)] w (RSays T E rb A c w r) := by
  obtain ⟨w3, hw0, ho0, hb0⟩ := box_zeroE w
  have HW0 := Lib.hid hw0
  have HLT := Lib.hid hR.lt
  have HOLD := Lib.hid (show 0 < T.length → ∀ ad, A = some ad → ad.block < w.heap.size from hR.old)
  have T3 := Lib.hid (IH w3 (hR.keep hb0) (hE.keep hb0))
  have HN3 := Lib.hid (Only.of_below (S := fun k => k = rb) hb0)
  have HLW3 := Lib.hid (show w.heap.size < w3.heap.size from ho0.lt)
  have HZ4 := Lib.hid (show ∀ w4, Only (fun k => k = rb) w3 w4 → Own7 w4 w.heap.size zeroE from fun w4 h4 => own7_only ho0 h4 (by have := HLT.out; omega))
  clear hR hE IH hw0 ho0 hb0
  go_enter Tryz.func82, Tryz.ntmps82
  go_wp2_with (first | rw [HW0.out])
  match r, T3 with
  | .error k, T3 =>
    refine (T3.out).mono ?_
    rintro e w4 ⟨rfl, hn4⟩
    have HF := Lib.hid (HN3.out.trans hn4)
    clear hn4
    unfold wrongAt
    go_wp2_with fail
    exact ⟨rfl, rfl, HF.out⟩
  | .ok (x, jx), T3 =>
    refine (T3.out).mono ?_
    rintro e w4 ⟨y, rfl, hsy, hst, hr4, hn4⟩
    have HSY := Lib.hid hsy
    have HST := Lib.hid hst
    have HR4 := Lib.hid hr4
    have HN4 := Lib.hid (HN3.out.trans hn4)
    have HZZ := Lib.hid (HZ4.out w4 hn4)
    clear hsy hst hr4 hn4
    go_wp2_with (first
      | (refine wpList_put7 rfl (.tmp 2) (.tmp 4) rfl (X := y) HZZ.out rfl (by rfl) ?_; intro w6 hz6 ho6; have HZ6 := Lib.hid hz6; have HO6 := Lib.hid ho6; clear hz6 ho6))
    obtain ⟨o0, o1, o2, o3, o4, o5, o6⟩ := HZ6.out.cells
    refine bodyPost_ret (v := exV y) ?_ rfl ?_
    · simp [results, Tryz.results82, go_sem, o0, o1, o2, o3, o4, o5, o6, exV]
    · exact says_put HN4.out HR4.out HSY.out (fun b hb => by have := HLW3.out; have hb' : w3.heap.size ≤ b := hb; exact ⟨by omega, by omega⟩) HST.out HO6.out rfl HLT.out HOLD.out
/-- Nothing may follow. -/
def DoneSays (T : List Tok) (E i : Nat) (w : World) (e : Ending) (w' : World) : Prop :=
  (T.length ≤ i ∧ e = .returned (.tuple #[]) ∧ Below w.heap.size w w') ∨ (i < T.length ∧ e = wrongAt (atT T E i) ∧ Below w.heap.size w w')
set_option maxHeartbeats 1000000 in
set_option maxRecDepth 100000 in
theorem done_any {T : List Tok} {E : Nat} {w : World} {rb : Nat} {A : Option Addr} {c i : Nat} (h : RdAt T E w rb A c i) (hW : Words T E) : Calls Tryz.prog 104 #[.pointer (some ⟨rb, 0, none⟩)] w (DoneSays T E i w) := by
  obtain ⟨c0, c1, c2⟩ := h.cells
  have HR := Lib.hid h
  have HWW := Lib.hid hW
  have hcap : T.length ≤ c := h.toks.2.2.1
  have hmax : c ≤ maxLen := h.toks.2.2.2.1
  unfold maxLen at hmax
  obtain ⟨n, hn⟩ : ∃ n, T.length = n := ⟨_, rfl⟩
  have HN := Lib.hid hn
  rw [hn] at c0 hcap
  clear h hW hn
  by_cases hi : i < n
  · have g1 : decide ((i : Int) < (n : Int)) = true := decide_eq_true (by omega)
    have HI := Lib.hid hi
    clear hi
    go_enter Tryz.func104, Tryz.ntmps104
    go_wp2_with fail
    go_quiet (fail)
    have hby : Below w.heap.size w (w.drewN nq) := below_drewN (Below.refl _ _) nq
    have T1 := Lib.hid (fail_any (HR.out.keep hby) HWW.out)
    have HBY := Lib.hid hby
    generalize w.drewN nq = wy at T1 HBY ⊢
    clear hby
    go_wp2_with fail
    refine (T1.out).mono ?_
    rintro e' w1 ⟨rfl, hb1⟩
    have HB1 := Lib.hid (below_step HBY.out hb1)
    clear hb1
    unfold wrongAt
    go_wp2_with fail
    exact ⟨rfl, Or.inr ⟨by rw [HN.out]; exact HI.out, rfl, HB1.out⟩⟩
  · have g1 : decide ((i : Int) < (n : Int)) = false := decide_eq_false (by omega)
    have HI := Lib.hid hi
    clear hi
    go_enter Tryz.func104, Tryz.ntmps104
    go_wp2_with fail
    go_quiet (fail)
    go_wp2_with fail
    go_end0
    exact Or.inl ⟨by have := HI.out; rw [HN.out]; omega, rfl, below_drewN (Below.refl _ _) nq⟩
set_option maxHeartbeats 1000000 in
set_option maxRecDepth 100000 in
theorem newReader_any (T : List Tok) (A : Option Addr) (c : Nat) (s : ByteArray) (w : World) (ht : SeesToks w A T.length c T) :
    Calls Tryz.prog 103 #[.slice A T.length c, .string s] w fun e w' => ∃ rb, e = .returned (.pointer (some ⟨rb, 0, none⟩)) ∧ w.heap.size ≤ rb ∧ RdAt T s.size w' rb A c 0 ∧ Below w.heap.size w w' := by
  have HT := Lib.hid ht
  have hcap : T.length ≤ c := ht.2.2.1
  have hmax : c ≤ maxLen := ht.2.2.2.1
  unfold maxLen at hmax
  obtain ⟨n, hn⟩ : ∃ n, T.length = n := ⟨_, rfl⟩
  have HN := Lib.hid hn
  rw [hn] at hcap ⊢
  clear ht hn
  go_enter Tryz.func103, Tryz.ntmps103
  go_wp2_with fail
  go_ret
  refine ⟨w.heap.size, rfl, Nat.le_refl _, ?_, belowNew' _ _⟩
  have hb := belowNew' w (.cells #[.slice A T.length c, .int .i64 0, .int .i64 s.size] 189)
  rw [HN.out] at hb
  refine ⟨by rw [HN.out]; exact heap_alloc_new w _, HT.out.keep hb, fun h0 ad e => ?_, Nat.zero_le _⟩
  obtain ⟨g, o, e2, hg, _⟩ := HT.out.2.2.2.2.2 h0
  rw [e] at e2
  injection e2 with e2
  rw [e2]
  exact Nat.ne_of_lt hg
end Go.Proofs.YtpbbkpfaphjdoaaGreatDoor
namespace Go.Proofs.YtpbbkpfaphjdoaaGreatDoor
open Go.ChangeShapes Go.WideShapes Go.ChangeAt Go.RowKit

theorem ar_cases {T : List Tok} {E : Nat} {wd : List UInt8} {p m i : Nat} {acc : List Ex} {r : PR} (h : Rd T E (.ar wd p m acc) i r) :
    (acc.length = m ∧ ((isT T i wClose = true ∧ r = .ok (opEx wd acc p, i + 1)) ∨ (isT T i wClose = false ∧ r = .error (atT T E i)))) ∨
    (acc.length < m ∧ acc ≠ [] ∧ isT T i wComma = false ∧ r = .error (atT T E i)) ∨
    (acc.length < m ∧ ∃ i', (acc = [] ∧ i' = i ∨ acc ≠ [] ∧ isT T i wComma = true ∧ i' = i + 1) ∧ ((∃ k, Rd T E (.lv 0) i' (.error k) ∧ r = .error k) ∨ ∃ x j, Rd T E (.lv 0) i' (.ok (x, j)) ∧ Rd T E (.ar wd p m (acc ++ [x])) j r)) := by
  cases h with
  | arEnd h c => exact Or.inl ⟨h, Or.inl ⟨c, rfl⟩⟩
  | arEndN h c => exact Or.inl ⟨h, Or.inr ⟨c, rfl⟩⟩
  | arFirst h a b => exact Or.inr (Or.inr ⟨h, _, Or.inl ⟨rfl, rfl⟩, Or.inr ⟨_, _, a, b⟩⟩)
  | arFirstE h a => exact Or.inr (Or.inr ⟨h, _, Or.inl ⟨rfl, rfl⟩, Or.inl ⟨_, a, rfl⟩⟩)
  | arGo h h0 c a b => exact Or.inr (Or.inr ⟨h, _, Or.inr ⟨h0, c, rfl⟩, Or.inr ⟨_, _, a, b⟩⟩)
  | arGoE h h0 c a => exact Or.inr (Or.inr ⟨h, _, Or.inr ⟨h0, c, rfl⟩, Or.inl ⟨_, a, rfl⟩⟩)
  | arGoN h h0 c => exact Or.inr (Or.inl ⟨h, h0, c, rfl⟩)
theorem built_opp (op : ByteArray) (pos : Int) : Tryz.prog.built 26 [(0, Value.string op), (4, .int .i64 pos)] = some #[.string op, .string ⟨#[]⟩, .int .i64 0, .int .i64 0, .string ⟨#[]⟩, .slice none 0 0, .int .i64 pos] := by kernel_rfl
theorem run_opp (op : ByteArray) (pos : Int) (w : World) : (Instr.build 26 #[(0, .string op), (4, .int .i64 pos)]).run Tryz.prog w = .ok (.agg #[.string op, .string ⟨#[]⟩, .int .i64 0, .int .i64 0, .string ⟨#[]⟩, .slice none 0 0, .int .i64 pos]) w :=
  run_build w _ _ _ (built_opp op pos)
/-- append of one, just laid, in a region that is taken step by step. -/
theorem wpOp_append_one {P : Program} {t e : TypeId} {z : Value} {size bytes : Nat} (hS : SliceTy P t e z size bytes)
    {ops : Array Oper} {o : Oper} {a : Act} {K : Act → World → Prop} {Q : Exit → Act → World → Prop} {j : Nat} {d : Option Tmp} (hj : ops[j]? = some o) (hd : o.dst = d) (hgd : o.guard = none) (s x : Operand)
    (ho : o.op = .call { callee := .builtin .append, args := #[s, x], argTypes := #[t, t] })
    {B H : Nat} {w : World} {v : Value} {n : Nat} {xs ys : List Value} {b c : Nat}
    (hs : a.eval s = v) (hx : a.eval x = .slice (some ⟨b, 0, none⟩) 1 c)
    (hown : w.ownsRow B e size v n xs) (hB : B ≤ w.heap.size) (hys : ys.length = size) (hcell : ∀ j u, ys[j]? = some u → w.cell? ((⟨b, 0, none⟩ : Addr).add j) = some u) (h1 : ∀ u ∈ ys, u.oneCell' = true)
    (hn : (n + 1) * bytes ≤ 140737488355328) (hH : w.heap.size = H)
    (h : ∀ g cap w', w'.ownsRow B e size (.slice (some ⟨g, 0, none⟩) (n + 1) cap) (n + 1) (xs ++ ys) → w.grownBy w' v.ownBlock → (v.ownBlock = some g ∨ g = H) → K (a.put d (.slice (some ⟨g, 0, none⟩) (n + 1) cap)) w') : wpOp P ops Q j K a w := by
  subst hd
  obtain ⟨ht, h2, h3, hzs, i, hi, hz, hsz, hby⟩ := hS
  have hm : n + 1 ≤ (n + 1) * bytes := Nat.le_mul_of_pos_right _ h3
  have hw : Region.wanted o (yielded ops a.tmps) = true := by simp [Region.wanted, hgd]
  unfold wpOp
  simp only [hj, hw, if_true]
  left
  exact wp_append_lies w s x t ho B e i z size bytes ht hi hz hsz hby hzs h2 v n xs hs hown ⟨b, 0, none⟩ 1 c ys hx (by simpa using hys) hcell h1 (by decide) (by unfold maxLen; omega) hn hB H hH (fun g cap w' k1 k2 k3 _ => h g cap w' k1 k2 k3)
set_option maxHeartbeats 4000000 in
set_option maxRecDepth 100000 in
theorem call_no {T : List Tok} {E : Nat} (hW : Words T E) {i : Nat} {wd : List UInt8} (h : isT T i wd = true) (o : isT T (i + 1) wOpen = false) (m : Nat) (w : World) (rb : Nat) (A : Option Addr) (c : Nat) (hR : RdAt T E w rb A c i) :
    Calls Tryz.prog 260 #[.pointer (some ⟨rb, 0, none⟩), .int .i64 m] w (RSays T E rb A c w (.error (atT T E (i + 1)))) := by
  obtain ⟨w0, hw0, ho0, hb0⟩ := box_zeroE w
  have HO0 := Lib.hid ho0
  have HW0 := Lib.hid hw0
  have hil := isT_lt h
  have T1 := Lib.hid (take_any (hR.keep hb0) hW hil)
  have HWW := Lib.hid hW
  have HLT := Lib.hid hR.lt
  have HOLD := Lib.hid (show 0 < T.length → ∀ ad, A = some ad → ad.block < w.heap.size from hR.old)
  have HB0 := Lib.hid hb0
  have HO := Lib.hid (show isT T (i + 1) (⟨#[40]⟩ : ByteArray).data.toList = false from o)
  unfold TakeSays tokV at T1
  rw [isT_text h] at T1
  clear hW h hR hw0 ho0 hb0 o hil
  go_enter Tryz.func260, Tryz.ntmps260
  go_wp2_with (first | rw [HW0.out])
  refine (T1.out).mono ?_
  rintro e' w1 ⟨rfl, hr1, hn1⟩
  obtain ⟨w2, hw2⟩ : ∃ w2, w1.alloc (.cells #[.int .i64 (kindT T i), .string ⟨wd.toArray⟩, .int .i64 (atT T E i)] 115) = w2 := ⟨_, rfl⟩
  have hb2 : Below w1.heap.size w1 w2 := by rw [← hw2]; exact belowNew' _ _
  have ho2 : Own3T w2 w1.heap.size (kindT T i) ⟨wd.toArray⟩ (atT T E i) := by rw [← hw2]; exact own3t_new w1 _ _ _
  obtain ⟨w3, hw3⟩ : ∃ w3, w2.alloc (.cells #[.string ⟨wd.toArray⟩, .string ⟨#[]⟩, .int .i64 0, .int .i64 0, .string ⟨#[]⟩, .slice none 0 0, .int .i64 (atT T E i)] 26) = w3 := ⟨_, rfl⟩
  have hb3 : Below w2.heap.size w2 w3 := by rw [← hw3]; exact belowNew' _ _
  have ho3 : Own7 w3 w2.heap.size (.mk (mkB wd) ⟨#[]⟩ noVal none 0 [] (atT T E i)) := by rw [← hw3]; exact own7_new w2 (.mk (mkB wd) ⟨#[]⟩ noVal none 0 [] (atT T E i))
  obtain ⟨d0, d1, d2⟩ := ho2.cells
  have hl2 := ho2.lt
  have bd := run_opp ⟨wd.toArray⟩ (atT T E i)
  have T2 := Lib.hid (need_any ((hr1.keep hb2).keep hb3) HWW.out ⟨#[40]⟩)
  rw [HO.out] at T2
  have HN3 := Lib.hid (((Only.of_below HB0.out).trans hn1).trans ((Only.of_below (S := fun k => k = rb) hb2).trans (.of_below hb3)))
  have HO3 := Lib.hid ho3
  have HSZ := Lib.hid (show w.heap.size < w1.heap.size ∧ w1.heap.size < w2.heap.size from ⟨Nat.lt_of_lt_of_le HO0.out.lt hn1.size, ho2.lt⟩)
  have HZ3 := Lib.hid (((own7_only HO0.out hn1 (by have := HLT.out; omega)).keep hb2).keep hb3)
  have HW2 := Lib.hid hw2
  have HW3 := Lib.hid hw3
  clear hw2 hb2 ho2 hw3 hb3 ho3 hr1 hn1 T1
  go_wp2_with (first | rw [HW2.out] | rw [HW3.out])
  refine (T2.out).mono ?_
  rintro e w4 (⟨hh, -, -, -⟩ | ⟨-, rfl, hn4⟩)
  · cases hh
  · have HF := Lib.hid (HN3.out.trans hn4)
    clear hn4 T2
    unfold wrongAt
    go_wp2_with fail
    exact ⟨rfl, rfl, HF.out⟩
end Go.Proofs.YtpbbkpfaphjdoaaGreatDoor
namespace Go.Proofs.YtpbbkpfaphjdoaaGreatDoor
open Go.ChangeShapes Go.WideShapes Go.ChangeAt Go.RowKit

/-- Blocks that were not there ahead may turn. -/
theorem Only.then_news {S S2 : Nat → Prop} {a b d : World} (h : Only S a b) (h2 : Only S2 b d) (hn : ∀ k, S2 k → a.heap.size ≤ k) : Only S a d :=
  ⟨h2.os.trans h.os, h2.tape.trans h.tape, h2.output.trans h.output, Nat.le_trans h.size h2.size, fun k hk hs => (h2.block k (Nat.lt_of_lt_of_le hk h.size) (fun e => by have := hn k e; omega)).trans (h.block k hk hs)⟩
/-- An operation that yields nothing. -/
theorem wpOp_skip {P : Program} {ops : Array Oper} {Q : Exit → Act → World → Prop} {j : Nat} {K : Act → World → Prop} {a : Act} {w w' : World} {o : Oper}
    (ho : ops[j]? = some o) (hw : Region.wanted o (yielded ops a.tmps) = true) (he : (execOp a.eval o).run P w = .ok .skip w') (h : K (a.put o.dst undef) w') : wpOp P ops Q j K a w := by
  unfold wpOp
  simp only [ho, hw, if_true]
  left
  unfold Oper.wp
  rw [he]
  exact h
/-- A call's arguments so far: k of them. -/
structure ArIs (T : List Tok) (E rb : Nat) (A : Option Addr) (c : Nat) (w : World) (wd : List UInt8) (pos b6 k j : Nat) (A' : Option Addr) (c' : Nat) (ys : List Ex) (wr : World) : Prop where
  len : ys.length = k
  own : Own7 wr b6 (.mk (mkB wd) ⟨#[]⟩ noVal A' c' ys pos)
  row : wr.ownsRow (b6 + 1) 26 7 (.slice A' k c') k (exsCells ys)
  see : ∀ y ∈ ys, SeesS (fun b => w.heap.size < b ∧ b ≠ b6 ∧ (Value.slice A' k c').ownBlock ≠ some b) wr y
  rd : RdAt T E wr rb A c j
  only : Only (fun k => k = rb) w wr
  res : Own7 wr w.heap.size zeroE
  new : w.heap.size < b6
  lt : rb < w.heap.size
  old : 0 < T.length → ∀ ad, A = some ad → ad.block < w.heap.size
section
theorem RdAt.to_many {T : List Tok} {E : Nat} {w w1 w2 : World} {rb : Nat} {A : Option Addr} {c i b6 : Nat} {S : Nat → Prop} (h : RdAt T E w rb A c i) (h1 : Only S w w1) (h2 : Only (fun b => b = b6) w1 w2) (ha : ¬ S rb) (hb : rb ≠ b6) (hc : 0 < T.length → ∀ ad, A = some ad → ¬ S ad.block ∧ ad.block ≠ b6) : RdAt T E w2 rb A c i := by
  have e1 : RdAt T E w1 rb A c i := ⟨(h1.block rb h.lt ha).trans h.box, ⟨h.toks.1, h1.sees_far h.toks.2 (fun h0 ad e => (hc h0 ad e).1)⟩, h.far, h.le⟩
  exact e1.other h2 hb (fun h0 ad e => (hc h0 ad e).2)
variable {T : List Tok} {E rb : Nat} {A : Option Addr} {c : Nat} {w : World} {wd : List UInt8} {pos b6 k j : Nat} {A' : Option Addr} {c' : Nat} {ys : List Ex} {wr : World}
theorem ArIs.to (h : ArIs T E rb A c w wd pos b6 k j A' c' ys wr) {w' : World} {j' : Nat} (ho : Only (fun k => k = rb) wr w') (hr : RdAt T E w' rb A c j') : ArIs T E rb A c w wd pos b6 k j' A' c' ys w' := by
  have h1 := h.lt
  have h2 := h.new
  refine ⟨h.len, own7_only h.own ho (fun e => by have e' : b6 = rb := e; omega), ho.own h.row (fun k hk e => by have := (h.row.lt k hk).1; have e' : k = rb := e; omega), fun y hy => (h.see y hy).keep (alike_only2 ho (fun b hb e => by have := hb.1; have e' : b = rb := e; omega)), hr, h.only.trans ho, own7_only h.res ho (fun e => by have e' : w.heap.size = rb := e; omega), h2, h1, h.old⟩
theorem ArIs.cell (h : ArIs T E rb A c w wd pos b6 k j A' c' ys wr) : wr.cell? ⟨b6, 5, none⟩ = some (.slice A' k c') := by
  obtain ⟨-, -, -, -, -, c5, -⟩ := h.own.cells
  have c5' : wr.cell? ⟨b6, 5, none⟩ = some (.slice A' ys.length c') := c5
  rw [c5', h.len]
/-- One more. -/
theorem ArIs.more (h : ArIs T E rb A c w wd pos b6 k j A' c' ys wr) {wx we wf : World} {j2 g cap : Nat} {y : Ex} (ho : Only (fun k => k = rb) wr wx) (hr : RdAt T E wx rb A c j2) (hy : SeesS (fun b => wr.heap.size ≤ b) wx y) (hb : Below wx.heap.size wx we)
    (hown : wf.ownsRow (b6 + 1) 26 7 (.slice (some ⟨g, 0, none⟩) (k + 1) cap) (k + 1) (exsCells ys ++ [.string y.op, .string y.name, .int .i64 y.val.type, .int .i64 y.val.n, .string y.val.s, .slice y.A y.args.length y.c, .int .i64 y.pos])) (hg : we.grownBy wf (Value.slice A' k c').ownBlock) (hat : (Value.slice A' k c').ownBlock = some g ∨ g = we.heap.size) :
    wf.cell? ⟨b6, 5, none⟩ = some (.slice A' k c') ∧ wf.frozen? ⟨b6, 5, none⟩ = false ∧ ArIs T E rb A c w wd pos b6 (k + 1) j2 (some ⟨g, 0, none⟩) cap (ys ++ [y]) (wf.setCell ⟨b6, 5, none⟩ (.slice (some ⟨g, 0, none⟩) (k + 1) cap)) := by
  have H1 := h.to ho hr
  have H2 := H1.to (.of_below hb) (hr.keep hb)
  have hn := h.new
  have hl := h.lt
  have hof : Only (fun b => (Value.slice A' k c').ownBlock = some b) we wf := Only.of_grown hg (fun b e => e.symm)
  have hlow : ∀ b, (Value.slice A' k c').ownBlock = some b → b6 < b ∧ b < wr.heap.size := fun b e => ⟨(h.row.lt b e).1, (h.row.lt b e).2⟩
  have hs1 := ho.size
  have hs2 := hb.size
  have hs3 := hof.size
  have ho6 : Own7 wf b6 (.mk (mkB wd) ⟨#[]⟩ noVal A' c' ys pos) := own7_only H2.own hof (fun e => by have := (hlow b6 e).1; omega)
  have hl6 : b6 < wr.heap.size := h.own.lt
  have hc : wf.cell? ⟨b6, 5, none⟩ = some (.slice A' k c') := by
    obtain ⟨-, -, -, -, -, c5, -⟩ := ho6.cells
    have c5' : wf.cell? ⟨b6, 5, none⟩ = some (.slice A' ys.length c') := c5
    rw [c5', h.len]
  refine ⟨hc, ho6.free 5, ?_⟩
  have hog : Only (fun b => b = b6) wf (wf.setCell ⟨b6, 5, none⟩ (.slice (some ⟨g, 0, none⟩) (k + 1) cap)) := (Only.refl (fun b => b = b6) wf).setCell (p := ⟨b6, 5, none⟩) rfl _
  have hgl : b6 < g := by rcases hat with e | e; exact (hlow g e).1; omega
  have hlen : (ys ++ [y]).length = k + 1 := by rw [List.length_append, h.len]; rfl
  refine ⟨hlen, ?_, ?_, fun z hz => ?_, ?_, ?_, ?_, hn, hl, h.old⟩
  · have := ho6.setArgs (some ⟨g, 0, none⟩) cap (ys ++ [y])
    rw [hlen] at this
    exact this
  · have e : exsCells (ys ++ [y]) = exsCells ys ++ [.string y.op, .string y.name, .int .i64 y.val.type, .int .i64 y.val.n, .string y.val.s, .slice y.A y.args.length y.c, .int .i64 y.pos] := by simp [exsCells, exCells]
    rw [e]
    refine hog.own hown (fun b hb e => ?_)
    injection hb with hb
    have hb : g = b := hb
    have e : b = b6 := e
    omega
  · have key : SeesS (fun b => (w.heap.size < b ∧ b ≠ b6 ∧ (Value.slice A' k c').ownBlock ≠ some b) ∧ b < wx.heap.size) wx z := by
      rcases List.mem_append.1 hz with hz | hz
      · exact seesS_lt2 (H1.see z hz)
      · simp at hz
        subst hz
        exact (seesS_lt2 hy).mono (fun b hb => ⟨⟨by have := hb.1; omega, by have := hb.1; omega, fun e => by have := (hlow b e).2; have := hb.1; omega⟩, hb.2⟩)
    refine (((key.keep (.of_below hb)).keep (alike_only2 hof (fun b hb e => hb.1.2.2 e))).keep (alike_only2 hog (fun b hb e => hb.1.2.1 e))).mono (fun b hb => ⟨hb.1.1, hb.1.2.1, fun e => ?_⟩)
    injection e with e
    have e : g = b := e
    subst e
    rcases hat with e | e
    · exact hb.1.2.2 e
    · have := hb.2; omega
  · exact ((hr.keep hb).to_many hof hog (fun e => by have := (hlow rb e).1; omega) (by omega) (fun h0 ad e => by have := h.old h0 ad e; exact ⟨fun e2 => by have := (hlow _ e2).1; omega, by omega⟩))
  · exact (H2.only.then_news hof (fun b e => by have := (hlow b e).1; omega)).then_news hog (fun b e => by have e' : b = b6 := e; omega)
  · exact own7_only (own7_only H2.res hof (fun e => by have := (hlow _ e).1; omega)) hog (fun e => by have e' : w.heap.size = b6 := e; omega)
/-- All of them: what is handed back. -/
theorem ArIs.says (h : ArIs T E rb A c w wd pos b6 k j A' c' ys wr) (hk : 0 < k) (hwd : wd.length ≤ 400) (hp : fits (pos : Int)) {w' : World} (ho : Only (fun b => b = w.heap.size) wr w') :
    RSays T E rb A c w (.ok (opEx wd (strips ys) pos, j)) (.returned (exV (.mk (mkB wd) ⟨#[]⟩ noVal A' c' ys pos))) w' := by
  have hn := h.new
  have hl := h.lt
  have hlen := h.len
  obtain ⟨g, cap, e, hg, hrow⟩ := RowE.of_own h.row hlen hk
  injection e with e1 e2 e3
  subst e1
  subst e3
  have hz : (mkB wd).size = wd.length := by simp [mkB, ByteArray.size]
  have hs := hrow.sees
  have hsee : SeesS (fun b => w.heap.size < b) wr (.mk (mkB wd) ⟨#[]⟩ noVal (some ⟨g, 0, none⟩) c' ys pos) := by
    refine .mk hs (fun g' o' e _ => ?_) (show (mkB wd).size ≤ maxLen by rw [hz]; unfold maxLen; omega) (Nat.zero_le _) ⟨show fits 0 by decide, show fits 0 by decide, Nat.zero_le _⟩ hp (fun a ha => (h.see a ha).mono (fun b hb => hb.1))
    injection e with e
    injection e with e _
    omega
  exact ⟨_, rfl, (hsee.keep (alike_only2 ho (fun b hb e => by have hb' : w.heap.size < b := hb; have e' : b = w.heap.size := e; omega))).mono (fun b hb => Nat.le_of_lt hb), by rw [strip_mk]; rfl, h.rd.other ho (by omega) (fun h0 ad e => by have := h.old h0 ad e; omega), h.only.then_new ho (Nat.le_refl _)⟩
end
set_option maxHeartbeats 16000000 in
set_option maxRecDepth 100000 in
theorem call_go {T : List Tok} {E : Nat} (hW : Words T E) {i : Nat} {wd : List UInt8} (h : isT T i wd = true) (o : isT T (i + 1) wOpen = true) (m : Nat) (hm0 : 0 < m) (hm : m ≤ 3) (hwd : wd.length ≤ 400) {r : PR} (hrd : Rd T E (.ar wd (atT T E i) m []) (i + 2) r) (wB w : World) (rb : Nat) (A : Option Addr) (c : Nat) (hR : RdAt T E w rb A c i) (hE : Env wB w rb)
    (IH : ∀ (j : Nat) (r' : PR), i + 2 ≤ j → Rd T E (.lv 0) j r' → ∀ w' : World, RdAt T E w' rb A c j → Env wB w' rb → Calls Tryz.prog 82 #[.pointer (some ⟨rb, 0, none⟩)] w' (RSays T E rb A c w' r')) :
    Calls Tryz.prog 260 #[.pointer (some ⟨rb, 0, none⟩), .int .i64 m] w (RSays T E rb A c w r) := by
  obtain ⟨w0, hw0, ho0, hb0⟩ := box_zeroE w
  have HO0 := Lib.hid ho0
  have HW0 := Lib.hid hw0
  have hil := isT_lt h
  have T1 := Lib.hid (take_any (hR.keep hb0) hW hil)
  have HWW := Lib.hid hW
  have HLT := Lib.hid hR.lt
  have HOLD := Lib.hid (show 0 < T.length → ∀ ad, A = some ad → ad.block < w.heap.size from hR.old)
  have HB0 := Lib.hid hb0
  have HO := Lib.hid (show isT T (i + 1) (⟨#[40]⟩ : ByteArray).data.toList = true from o)
  have HIH := Lib.hid IH
  have HE0 := Lib.hid hE
  have HRD := Lib.hid hrd
  have HM := Lib.hid (show 0 < m ∧ wd.length ≤ 400 from ⟨hm0, hwd⟩)
  unfold TakeSays tokV at T1
  rw [isT_text h] at T1
  clear hW h hR hw0 ho0 hb0 o hil IH hE hrd hm0 hwd
  go_enter Tryz.func260, Tryz.ntmps260
  go_wp2_with (first | rw [HW0.out])
  refine (T1.out).mono ?_
  rintro e' w1 ⟨rfl, hr1, hn1⟩
  obtain ⟨w2, hw2⟩ : ∃ w2, w1.alloc (.cells #[.int .i64 (kindT T i), .string ⟨wd.toArray⟩, .int .i64 (atT T E i)] 115) = w2 := ⟨_, rfl⟩
  have hb2 : Below w1.heap.size w1 w2 := by rw [← hw2]; exact belowNew' _ _
  have ho2 : Own3T w2 w1.heap.size (kindT T i) ⟨wd.toArray⟩ (atT T E i) := by rw [← hw2]; exact own3t_new w1 _ _ _
  obtain ⟨w3, hw3⟩ : ∃ w3, w2.alloc (.cells #[.string ⟨wd.toArray⟩, .string ⟨#[]⟩, .int .i64 0, .int .i64 0, .string ⟨#[]⟩, .slice none 0 0, .int .i64 (atT T E i)] 26) = w3 := ⟨_, rfl⟩
  have hb3 : Below w2.heap.size w2 w3 := by rw [← hw3]; exact belowNew' _ _
  have ho3 : Own7 w3 w2.heap.size (.mk (mkB wd) ⟨#[]⟩ noVal none 0 [] (atT T E i)) := by rw [← hw3]; exact own7_new w2 (.mk (mkB wd) ⟨#[]⟩ noVal none 0 [] (atT T E i))
  obtain ⟨d0, d1, d2⟩ := ho2.cells
  have hl2 := ho2.lt
  have bd := run_opp ⟨wd.toArray⟩ (atT T E i)
  have hr3 := (hr1.keep hb2).keep hb3
  have T2 := Lib.hid (need_any hr3 HWW.out ⟨#[40]⟩)
  rw [HO.out] at T2
  have hn3 := ((Only.of_below HB0.out).trans hn1).trans ((Only.of_below (S := fun k => k = rb) hb2).trans (.of_below hb3))
  have HAR := Lib.hid (show ArIs T E rb A c w wd (atT T E i) w2.heap.size 0 (i + 1) none 0 [] w3 from ⟨rfl, ho3, World.ownsRow_nil _ _ _ _, (fun y hy => by cases hy), hr3, hn3, ((own7_only HO0.out hn1 (by have := HLT.out; omega)).keep hb2).keep hb3, by have := HO0.out.lt; have := hn1.size; have := ho2.lt; omega, HLT.out, HOLD.out⟩)
  have HW2 := Lib.hid hw2
  have HW3 := Lib.hid hw3
  clear hw2 hb2 ho2 hw3 hb3 ho3 hr1 hn1 T1 hr3 hn3
  go_wp2_with (first | rw [HW2.out] | rw [HW3.out])
  refine (T2.out).mono ?_
  rintro e w4 (⟨-, rfl, hr4, hn4⟩ | ⟨hh, -, -⟩)
  rotate_left
  · cases hh
  have HA4 := Lib.hid (HAR.out.to hn4 hr4)
  generalize w2.heap.size = b6 at HA4
  clear hr4 hn4 T2 HAR HW2 HW3 d0 d1 d2 hl2 bd
  go_wp2_with fail
  go_loopw [18] (fun n wr => ∃ (k j : Nat) (A' : Option Addr) (c' : Nat) (ys : List Ex), n = .int .i64 k ∧ k ≤ m ∧ i + 2 ≤ j ∧ Rd T E (.ar wd (atT T E i) m (strips ys)) j r ∧ ArIs T E rb A c w wd (atT T E i) b6 k j A' c' ys wr) (fun n _ => m - (intOf n).toNat)
  case atStart => exact ⟨0, i + 2, none, 0, [], rfl, Nat.zero_le _, Nat.le_refl _, HRD.out, HA4.out⟩
  case round =>
    obtain ⟨k, j, A', c', ys, rfl, hk, hij, hrd, ha⟩ := hrel
    have HAR := Lib.hid ha
    have HIJ := Lib.hid hij
    have HLS := Lib.hid (show (strips ys).length = k by rw [strips_map, List.length_map]; exact ha.len)
    have HC := Lib.hid (ar_cases hrd)
    clear ha hij hrd HA4
    by_cases hkm : k < m
    · by_cases hk0 : 0 < k
      · have T4 := Lib.hid (need_any HAR.out.rd HWW.out ⟨#[44]⟩)
        have HCC := Lib.hid (show (isT T j (⟨#[44]⟩ : ByteArray).data.toList = false ∧ r = .error (atT T E j)) ∨ (isT T j (⟨#[44]⟩ : ByteArray).data.toList = true ∧ ((∃ e, Rd T E (.lv 0) (j + 1) (.error e) ∧ r = .error e) ∨ ∃ x j3, Rd T E (.lv 0) (j + 1) (.ok (x, j3)) ∧ Rd T E (.ar wd (atT T E i) m (strips ys ++ [x])) j3 r)) by
          have hs0 : strips ys ≠ [] := fun e => by have := HLS.out; rw [e] at this; simp at this; omega
          rcases HC.out with ⟨h, -⟩ | ⟨-, -, h⟩ | ⟨-, i', ⟨h, -⟩ | ⟨-, hc, rfl⟩, h2⟩
          · have := HLS.out; omega
          · exact Or.inl h
          · exact absurd h hs0
          · exact Or.inr ⟨hc, h2⟩)
        clear HC
        go_wp2_with fail
        refine (T4.out).mono ?_
        rintro e wx (⟨hc, rfl, hrx, hnx⟩ | ⟨hc, rfl, hnx⟩)
        · have HARG := Lib.hid (show (∃ e, Rd T E (.lv 0) (j + 1) (.error e) ∧ r = .error e) ∨ ∃ x j3, Rd T E (.lv 0) (j + 1) (.ok (x, j3)) ∧ Rd T E (.ar wd (atT T E i) m (strips ys ++ [x])) j3 r by
            rcases HCC.out with ⟨h, -⟩ | ⟨-, h⟩
            · rw [hc] at h; cases h
            · exact h)
          have HAX := Lib.hid (HAR.out.to hnx hrx)
          have HIX := Lib.hid (show i + 2 ≤ j + 1 by have := HIJ.out; omega)
          clear hc hrx hnx T4 HCC
          go_wp2_with fail
          generalize j + 1 = j2 at HAX HARG HIX
          rcases HARG.out with ⟨ke, ha, hr⟩ | ⟨x, j3, ha, hr⟩
          · have T9 := Lib.hid (HIH.out j2 (.error ke) HIX.out ha wx.drew (HAX.out.rd.keep (Below.refl _ _).drew) (HE0.out.only HAX.out.only.drew))
            clear ha
            refine wp_region_held (S := fun _ => True) (by kernel_rfl) ?_
            change wpAnyH _ _ _ _ _ _ _ _ wx.drew
            refine takeH (i := 0) (d := some 25) (v := .pointer (some ⟨b6, 5, none⟩)) rfl rfl (by kernel_rfl) (by kernel_rfl) (by kernel_rfl) (fun _ _ _ h => h) (Or.inl ⟨by rfl, fun w' _ => by go_simp⟩) trivial ?_
            simp only [Act.put, List.setIfInBounds_toArray, List.set_cons_zero, List.set_cons_succ]
            refine takeH (i := 2) (d := some 27) (v := .pointer (some ⟨rb, 0, none⟩)) rfl rfl (by kernel_rfl) (by kernel_rfl) (by kernel_rfl) (fun _ _ _ h => h) (Or.inl ⟨by rfl, fun w' _ => by go_simp⟩) trivial ?_
            simp only [Act.put, List.setIfInBounds_toArray, List.set_cons_zero, List.set_cons_succ]
            refine wpAnyH_all (rs := [1, 3]) (by kernel_rfl) (by simp) (fun jj hj => ?_)
            rcases (by simpa using hj : jj = 1 ∨ jj = 3) with rfl | rfl
            · skip
              have c5 := (show wx.drew.cell? ⟨b6, 5, none⟩ = some (.slice A' k c') from HAX.out.cell)
              refine wpOp_valueD (d := some 26) rfl rfl (by rfl) (v := .slice A' k c') (w' := wx.drew) (by go_simp) ?_
              clear c5
              refine ⟨trivial, ?_⟩
              simp only [Act.put, List.setIfInBounds_toArray, List.set_cons_zero, List.set_cons_succ]
              refine wpAnyH_all (rs := [3]) (by kernel_rfl) (by simp) (fun jj hj => ?_)
              obtain rfl : jj = 3 := by simpa using hj
              exact wpOp_panics rfl (by rfl) (f := 82) (args := #[.pointer (some ⟨rb, 0, none⟩)]) (by go_simp) (T9.out.mono fun e w' ⟨h1, h2⟩ => ⟨h1, h2⟩) (fun wy hny => ⟨rfl, by rw [hr]; exact ⟨rfl, HAX.out.only.trans hny.drewL⟩⟩)
            · exact wpOp_panics rfl (by rfl) (f := 82) (args := #[.pointer (some ⟨rb, 0, none⟩)]) (by go_simp) (T9.out.mono fun e w' ⟨h1, h2⟩ => ⟨h1, h2⟩) (fun wy hny => ⟨rfl, by rw [hr]; exact ⟨rfl, HAX.out.only.trans hny.drewL⟩⟩)
          · have T9 := Lib.hid (HIH.out j2 (.ok (x, j3)) HIX.out ha wx.drew (HAX.out.rd.keep (Below.refl _ _).drew) (HE0.out.only HAX.out.only.drew))
            have HJ3 := Lib.hid (show j2 ≤ j3 from Nat.le_trans (Nat.le_add_right _ _) (rd_on ha x j3 rfl HAX.out.rd.le).1)
            clear ha
            refine wp_region_held (S := fun _ => True) (by kernel_rfl) ?_
            change wpAnyH _ _ _ _ _ _ _ _ wx.drew
            refine takeH (i := 0) (d := some 25) (v := .pointer (some ⟨b6, 5, none⟩)) rfl rfl (by kernel_rfl) (by kernel_rfl) (by kernel_rfl) (fun _ _ _ h => h) (Or.inl ⟨by rfl, fun w' _ => by go_simp⟩) trivial ?_
            simp only [Act.put, List.setIfInBounds_toArray, List.set_cons_zero, List.set_cons_succ]
            refine takeH (i := 2) (d := some 27) (v := .pointer (some ⟨rb, 0, none⟩)) rfl rfl (by kernel_rfl) (by kernel_rfl) (by kernel_rfl) (fun _ _ _ h => h) (Or.inl ⟨by rfl, fun w' _ => by go_simp⟩) trivial ?_
            simp only [Act.put, List.setIfInBounds_toArray, List.set_cons_zero, List.set_cons_succ]
            refine wpAnyH_all (rs := [1, 3]) (by kernel_rfl) (by simp) (fun jj hj => ?_)
            rcases (by simpa using hj : jj = 1 ∨ jj = 3) with rfl | rfl
            · skip
              have c5 := (show wx.drew.cell? ⟨b6, 5, none⟩ = some (.slice A' k c') from HAX.out.cell)
              refine wpOp_valueD (d := some 26) rfl rfl (by rfl) (v := .slice A' k c') (w' := wx.drew) (by go_simp) ?_
              clear c5
              refine ⟨trivial, ?_⟩
              simp only [Act.put, List.setIfInBounds_toArray, List.set_cons_zero, List.set_cons_succ]
              refine wpAnyH_all (rs := [3]) (by kernel_rfl) (by simp) (fun jj hj => ?_)
              obtain rfl : jj = 3 := by simpa using hj
              refine wpOp_returnsD (d := some 28) rfl rfl (by rfl) (f := 82) (args := #[.pointer (some ⟨rb, 0, none⟩)]) (by go_simp) T9.out ?_
              rintro e wy ⟨y, rfl, hsy, hst, hry, hny⟩
              refine ⟨_, rfl, trivial, ?_⟩
              unfold exV
              simp only [Act.put, List.setIfInBounds_toArray, List.set_cons_zero, List.set_cons_succ]
              have HAY := Lib.hid (HAX.out.to hny.drewL hry)
              refine wpAnyH_all (rs := [4]) (by kernel_rfl) (by simp) (fun jj hj => ?_)
              obtain rfl : jj = 4 := by simpa using hj
              have hbz := belowNew' wy (.cells #[.string y.op, .string y.name, .int .i64 y.val.type, .int .i64 y.val.n, .string y.val.s, .slice y.A y.args.length y.c, .int .i64 y.pos] 26)
              have hrow : (wy.alloc (.cells #[.string y.op, .string y.name, .int .i64 y.val.type, .int .i64 y.val.n, .string y.val.s, .slice y.A y.args.length y.c, .int .i64 y.pos] 26)).heap[wy.heap.size]? = some (.cells (exsCells [y]).toArray 26 (0, 0)) := heap_alloc_new wy _
              refine wpOp_valueD (d := some 29) rfl rfl (by rfl) (v := .slice (some ⟨wy.heap.size, 0, none⟩) 1 1) (w' := wy.alloc (.cells #[.string y.op, .string y.name, .int .i64 y.val.type, .int .i64 y.val.n, .string y.val.s, .slice y.A y.args.length y.c, .int .i64 y.pos] 26)) (by go_simp) ?_
              generalize wy.alloc (.cells #[.string y.op, .string y.name, .int .i64 y.val.type, .int .i64 y.val.n, .string y.val.s, .slice y.A y.args.length y.c, .int .i64 y.pos] 26) = wz at hbz hrow ⊢
              refine ⟨trivial, ?_⟩
              simp only [Act.put, List.setIfInBounds_toArray, List.set_cons_zero, List.set_cons_succ]
              have HAZ := Lib.hid (HAY.out.to (.of_below hbz) (hry.keep hbz))
              refine wpAnyH_all (rs := [5]) (by kernel_rfl) (by simp) (fun jj hj => ?_)
              obtain rfl : jj = 5 := by simpa using hj
              refine wpOp_append_one (d := some 30) exSlice rfl rfl rfl (.tmp 26) (.tmp 29) rfl (v := .slice A' k c') (n := k) (xs := exsCells ys) (ys := [.string y.op, .string y.name, .int .i64 y.val.type, .int .i64 y.val.n, .string y.val.s, .slice y.A y.args.length y.c, .int .i64 y.pos]) (b := wy.heap.size) (c := 1) (B := b6 + 1) (H := wz.heap.size) rfl rfl HAZ.out.row HAZ.out.own.lt rfl (fun q u hu => ?_) (exs_cell' [y]) (by omega) rfl ?_
              · have hu' : (exsCells [y])[q]? = some u := hu
                have hcq : wz.cell? ⟨wy.heap.size, q, none⟩ = some u := by rw [cell_of_row _ _ _ _ _ _ hrow]; simpa using hu'
                rw [addr_add0]; exact hcq
              intro g cap wf hown hgr hat
              obtain ⟨q1, q2, hmore⟩ := HAX.out.more hny.drewL hry hsy hbz hown hgr hat
              have HMORE := Lib.hid hmore
              refine ⟨trivial, ?_⟩
              simp only [Act.put, List.setIfInBounds_toArray, List.set_cons_zero, List.set_cons_succ]
              clear hown hgr hat hmore hbz hrow hsy hry hny
              refine wpAnyH_all (rs := [6]) (by kernel_rfl) (by simp) (fun jj hj => ?_)
              obtain rfl : jj = 6 := by simpa using hj
              refine wpOp_valueD (d := some 31) rfl rfl (by rfl) (v := .pointer (some ⟨b6, 5, none⟩)) (w' := wf) (by go_simp) ?_
              refine ⟨trivial, ?_⟩
              simp only [Act.put, List.setIfInBounds_toArray, List.set_cons_zero, List.set_cons_succ]
              refine wpAnyH_all (rs := [7]) (by kernel_rfl) (by simp) (fun jj hj => ?_)
              obtain rfl : jj = 7 := by simpa using hj
              refine wpOp_skip rfl (by rfl) (w' := wf.setCell ⟨b6, 5, none⟩ (.slice (some ⟨g, 0, none⟩) (k + 1) cap)) (by go_simp) ?_
              refine ⟨trivial, ?_⟩
              refine wpAnyH_done (by kernel_rfl) ?_ _
              generalize wf.setCell ⟨b6, 5, none⟩ (.slice (some ⟨g, 0, none⟩) (k + 1) cap) = wg at HMORE ⊢
              clear q1 q2
              go_wp2_with fail
              go_roundw
              case rel => exact ⟨k + 1, j3, _, _, _, rfl, by omega, by have := HIX.out; have := HJ3.out; omega, by rw [strips_map, List.map_append, ← strips_map, List.map_cons, List.map_nil, hst]; exact hr, HMORE.out⟩
              case measure => simp only [intOf]; omega
            · skip
              refine wpOp_returnsD (d := some 28) rfl rfl (by rfl) (f := 82) (args := #[.pointer (some ⟨rb, 0, none⟩)]) (by go_simp) T9.out ?_
              rintro e wy ⟨y, rfl, hsy, hst, hry, hny⟩
              refine ⟨_, rfl, trivial, ?_⟩
              unfold exV
              simp only [Act.put, List.setIfInBounds_toArray, List.set_cons_zero, List.set_cons_succ]
              have HAY := Lib.hid (HAX.out.to hny.drewL hry)
              refine wpAnyH_all (rs := [1, 4]) (by kernel_rfl) (by simp) (fun jj hj => ?_)
              rcases (by simpa using hj : jj = 1 ∨ jj = 4) with rfl | rfl
              · skip
                have c5 := HAY.out.cell
                refine wpOp_valueD (d := some 26) rfl rfl (by rfl) (v := .slice A' k c') (w' := wy) (by go_simp) ?_
                clear c5
                refine ⟨trivial, ?_⟩
                simp only [Act.put, List.setIfInBounds_toArray, List.set_cons_zero, List.set_cons_succ]
                refine wpAnyH_all (rs := [4]) (by kernel_rfl) (by simp) (fun jj hj => ?_)
                obtain rfl : jj = 4 := by simpa using hj
                have hbz := belowNew' wy (.cells #[.string y.op, .string y.name, .int .i64 y.val.type, .int .i64 y.val.n, .string y.val.s, .slice y.A y.args.length y.c, .int .i64 y.pos] 26)
                have hrow : (wy.alloc (.cells #[.string y.op, .string y.name, .int .i64 y.val.type, .int .i64 y.val.n, .string y.val.s, .slice y.A y.args.length y.c, .int .i64 y.pos] 26)).heap[wy.heap.size]? = some (.cells (exsCells [y]).toArray 26 (0, 0)) := heap_alloc_new wy _
                refine wpOp_valueD (d := some 29) rfl rfl (by rfl) (v := .slice (some ⟨wy.heap.size, 0, none⟩) 1 1) (w' := wy.alloc (.cells #[.string y.op, .string y.name, .int .i64 y.val.type, .int .i64 y.val.n, .string y.val.s, .slice y.A y.args.length y.c, .int .i64 y.pos] 26)) (by go_simp) ?_
                generalize wy.alloc (.cells #[.string y.op, .string y.name, .int .i64 y.val.type, .int .i64 y.val.n, .string y.val.s, .slice y.A y.args.length y.c, .int .i64 y.pos] 26) = wz at hbz hrow ⊢
                refine ⟨trivial, ?_⟩
                simp only [Act.put, List.setIfInBounds_toArray, List.set_cons_zero, List.set_cons_succ]
                have HAZ := Lib.hid (HAY.out.to (.of_below hbz) (hry.keep hbz))
                refine wpAnyH_all (rs := [5]) (by kernel_rfl) (by simp) (fun jj hj => ?_)
                obtain rfl : jj = 5 := by simpa using hj
                refine wpOp_append_one (d := some 30) exSlice rfl rfl rfl (.tmp 26) (.tmp 29) rfl (v := .slice A' k c') (n := k) (xs := exsCells ys) (ys := [.string y.op, .string y.name, .int .i64 y.val.type, .int .i64 y.val.n, .string y.val.s, .slice y.A y.args.length y.c, .int .i64 y.pos]) (b := wy.heap.size) (c := 1) (B := b6 + 1) (H := wz.heap.size) rfl rfl HAZ.out.row HAZ.out.own.lt rfl (fun q u hu => ?_) (exs_cell' [y]) (by omega) rfl ?_
                · have hu' : (exsCells [y])[q]? = some u := hu
                  have hcq : wz.cell? ⟨wy.heap.size, q, none⟩ = some u := by rw [cell_of_row _ _ _ _ _ _ hrow]; simpa using hu'
                  rw [addr_add0]; exact hcq
                intro g cap wf hown hgr hat
                obtain ⟨q1, q2, hmore⟩ := HAX.out.more hny.drewL hry hsy hbz hown hgr hat
                have HMORE := Lib.hid hmore
                refine ⟨trivial, ?_⟩
                simp only [Act.put, List.setIfInBounds_toArray, List.set_cons_zero, List.set_cons_succ]
                clear hown hgr hat hmore hbz hrow hsy hry hny
                refine wpAnyH_all (rs := [6]) (by kernel_rfl) (by simp) (fun jj hj => ?_)
                obtain rfl : jj = 6 := by simpa using hj
                refine wpOp_valueD (d := some 31) rfl rfl (by rfl) (v := .pointer (some ⟨b6, 5, none⟩)) (w' := wf) (by go_simp) ?_
                refine ⟨trivial, ?_⟩
                simp only [Act.put, List.setIfInBounds_toArray, List.set_cons_zero, List.set_cons_succ]
                refine wpAnyH_all (rs := [7]) (by kernel_rfl) (by simp) (fun jj hj => ?_)
                obtain rfl : jj = 7 := by simpa using hj
                refine wpOp_skip rfl (by rfl) (w' := wf.setCell ⟨b6, 5, none⟩ (.slice (some ⟨g, 0, none⟩) (k + 1) cap)) (by go_simp) ?_
                refine ⟨trivial, ?_⟩
                refine wpAnyH_done (by kernel_rfl) ?_ _
                generalize wf.setCell ⟨b6, 5, none⟩ (.slice (some ⟨g, 0, none⟩) (k + 1) cap) = wg at HMORE ⊢
                clear q1 q2
                go_wp2_with fail
                go_roundw
                case rel => exact ⟨k + 1, j3, _, _, _, rfl, by omega, by have := HIX.out; have := HJ3.out; omega, by rw [strips_map, List.map_append, ← strips_map, List.map_cons, List.map_nil, hst]; exact hr, HMORE.out⟩
                case measure => simp only [intOf]; omega
              · skip
                have hbz := belowNew' wy (.cells #[.string y.op, .string y.name, .int .i64 y.val.type, .int .i64 y.val.n, .string y.val.s, .slice y.A y.args.length y.c, .int .i64 y.pos] 26)
                have hrow : (wy.alloc (.cells #[.string y.op, .string y.name, .int .i64 y.val.type, .int .i64 y.val.n, .string y.val.s, .slice y.A y.args.length y.c, .int .i64 y.pos] 26)).heap[wy.heap.size]? = some (.cells (exsCells [y]).toArray 26 (0, 0)) := heap_alloc_new wy _
                refine wpOp_valueD (d := some 29) rfl rfl (by rfl) (v := .slice (some ⟨wy.heap.size, 0, none⟩) 1 1) (w' := wy.alloc (.cells #[.string y.op, .string y.name, .int .i64 y.val.type, .int .i64 y.val.n, .string y.val.s, .slice y.A y.args.length y.c, .int .i64 y.pos] 26)) (by go_simp) ?_
                generalize wy.alloc (.cells #[.string y.op, .string y.name, .int .i64 y.val.type, .int .i64 y.val.n, .string y.val.s, .slice y.A y.args.length y.c, .int .i64 y.pos] 26) = wz at hbz hrow ⊢
                refine ⟨trivial, ?_⟩
                simp only [Act.put, List.setIfInBounds_toArray, List.set_cons_zero, List.set_cons_succ]
                have HAZ := Lib.hid (HAY.out.to (.of_below hbz) (hry.keep hbz))
                refine wpAnyH_all (rs := [1]) (by kernel_rfl) (by simp) (fun jj hj => ?_)
                obtain rfl : jj = 1 := by simpa using hj
                have c5 := HAZ.out.cell
                refine wpOp_valueD (d := some 26) rfl rfl (by rfl) (v := .slice A' k c') (w' := wz) (by go_simp) ?_
                clear c5
                refine ⟨trivial, ?_⟩
                simp only [Act.put, List.setIfInBounds_toArray, List.set_cons_zero, List.set_cons_succ]
                refine wpAnyH_all (rs := [5]) (by kernel_rfl) (by simp) (fun jj hj => ?_)
                obtain rfl : jj = 5 := by simpa using hj
                refine wpOp_append_one (d := some 30) exSlice rfl rfl rfl (.tmp 26) (.tmp 29) rfl (v := .slice A' k c') (n := k) (xs := exsCells ys) (ys := [.string y.op, .string y.name, .int .i64 y.val.type, .int .i64 y.val.n, .string y.val.s, .slice y.A y.args.length y.c, .int .i64 y.pos]) (b := wy.heap.size) (c := 1) (B := b6 + 1) (H := wz.heap.size) rfl rfl HAZ.out.row HAZ.out.own.lt rfl (fun q u hu => ?_) (exs_cell' [y]) (by omega) rfl ?_
                · have hu' : (exsCells [y])[q]? = some u := hu
                  have hcq : wz.cell? ⟨wy.heap.size, q, none⟩ = some u := by rw [cell_of_row _ _ _ _ _ _ hrow]; simpa using hu'
                  rw [addr_add0]; exact hcq
                intro g cap wf hown hgr hat
                obtain ⟨q1, q2, hmore⟩ := HAX.out.more hny.drewL hry hsy hbz hown hgr hat
                have HMORE := Lib.hid hmore
                refine ⟨trivial, ?_⟩
                simp only [Act.put, List.setIfInBounds_toArray, List.set_cons_zero, List.set_cons_succ]
                clear hown hgr hat hmore hbz hrow hsy hry hny
                refine wpAnyH_all (rs := [6]) (by kernel_rfl) (by simp) (fun jj hj => ?_)
                obtain rfl : jj = 6 := by simpa using hj
                refine wpOp_valueD (d := some 31) rfl rfl (by rfl) (v := .pointer (some ⟨b6, 5, none⟩)) (w' := wf) (by go_simp) ?_
                refine ⟨trivial, ?_⟩
                simp only [Act.put, List.setIfInBounds_toArray, List.set_cons_zero, List.set_cons_succ]
                refine wpAnyH_all (rs := [7]) (by kernel_rfl) (by simp) (fun jj hj => ?_)
                obtain rfl : jj = 7 := by simpa using hj
                refine wpOp_skip rfl (by rfl) (w' := wf.setCell ⟨b6, 5, none⟩ (.slice (some ⟨g, 0, none⟩) (k + 1) cap)) (by go_simp) ?_
                refine ⟨trivial, ?_⟩
                refine wpAnyH_done (by kernel_rfl) ?_ _
                generalize wf.setCell ⟨b6, 5, none⟩ (.slice (some ⟨g, 0, none⟩) (k + 1) cap) = wg at HMORE ⊢
                clear q1 q2
                go_wp2_with fail
                go_roundw
                case rel => exact ⟨k + 1, j3, _, _, _, rfl, by omega, by have := HIX.out; have := HJ3.out; omega, by rw [strips_map, List.map_append, ← strips_map, List.map_cons, List.map_nil, hst]; exact hr, HMORE.out⟩
                case measure => simp only [intOf]; omega
        · have HR := Lib.hid (show r = .error (atT T E j) from by
            rcases HCC.out with ⟨_, h⟩ | ⟨h, _⟩
            · exact h
            · rw [hc] at h; cases h)
          have HF := Lib.hid (HAR.out.only.trans hnx)
          clear hc hnx T4 HCC
          unfold wrongAt
          go_wp2_with fail
          rw [HR.out]
          exact ⟨rfl, rfl, HF.out⟩
      · have HARG := Lib.hid (show (∃ e, Rd T E (.lv 0) j (.error e) ∧ r = .error e) ∨ ∃ x j3, Rd T E (.lv 0) j (.ok (x, j3)) ∧ Rd T E (.ar wd (atT T E i) m (strips ys ++ [x])) j3 r by
          have hs0 : strips ys = [] := List.eq_nil_of_length_eq_zero (by have := HLS.out; omega)
          rcases HC.out with ⟨h, -⟩ | ⟨-, h, -⟩ | ⟨-, i', h | ⟨h, -⟩, h2⟩
          · have := HLS.out; omega
          · exact absurd hs0 h
          · obtain ⟨-, rfl⟩ := h; exact h2
          · exact absurd hs0 h)
        have HAX := HAR
        have HIX := HIJ
        clear HC
        go_wp2_with fail
        generalize wr = wx at HAX
        generalize j = j2 at HAX HARG HIX
        rcases HARG.out with ⟨ke, ha, hr⟩ | ⟨x, j3, ha, hr⟩
        · have T9 := Lib.hid (HIH.out j2 (.error ke) HIX.out ha wx.drew (HAX.out.rd.keep (Below.refl _ _).drew) (HE0.out.only HAX.out.only.drew))
          clear ha
          refine wp_region_held (S := fun _ => True) (by kernel_rfl) ?_
          change wpAnyH _ _ _ _ _ _ _ _ wx.drew
          refine takeH (i := 0) (d := some 25) (v := .pointer (some ⟨b6, 5, none⟩)) rfl rfl (by kernel_rfl) (by kernel_rfl) (by kernel_rfl) (fun _ _ _ h => h) (Or.inl ⟨by rfl, fun w' _ => by go_simp⟩) trivial ?_
          simp only [Act.put, List.setIfInBounds_toArray, List.set_cons_zero, List.set_cons_succ]
          refine takeH (i := 2) (d := some 27) (v := .pointer (some ⟨rb, 0, none⟩)) rfl rfl (by kernel_rfl) (by kernel_rfl) (by kernel_rfl) (fun _ _ _ h => h) (Or.inl ⟨by rfl, fun w' _ => by go_simp⟩) trivial ?_
          simp only [Act.put, List.setIfInBounds_toArray, List.set_cons_zero, List.set_cons_succ]
          refine wpAnyH_all (rs := [1, 3]) (by kernel_rfl) (by simp) (fun jj hj => ?_)
          rcases (by simpa using hj : jj = 1 ∨ jj = 3) with rfl | rfl
          · skip
            have c5 := (show wx.drew.cell? ⟨b6, 5, none⟩ = some (.slice A' k c') from HAX.out.cell)
            refine wpOp_valueD (d := some 26) rfl rfl (by rfl) (v := .slice A' k c') (w' := wx.drew) (by go_simp) ?_
            clear c5
            refine ⟨trivial, ?_⟩
            simp only [Act.put, List.setIfInBounds_toArray, List.set_cons_zero, List.set_cons_succ]
            refine wpAnyH_all (rs := [3]) (by kernel_rfl) (by simp) (fun jj hj => ?_)
            obtain rfl : jj = 3 := by simpa using hj
            exact wpOp_panics rfl (by rfl) (f := 82) (args := #[.pointer (some ⟨rb, 0, none⟩)]) (by go_simp) (T9.out.mono fun e w' ⟨h1, h2⟩ => ⟨h1, h2⟩) (fun wy hny => ⟨rfl, by rw [hr]; exact ⟨rfl, HAX.out.only.trans hny.drewL⟩⟩)
          · exact wpOp_panics rfl (by rfl) (f := 82) (args := #[.pointer (some ⟨rb, 0, none⟩)]) (by go_simp) (T9.out.mono fun e w' ⟨h1, h2⟩ => ⟨h1, h2⟩) (fun wy hny => ⟨rfl, by rw [hr]; exact ⟨rfl, HAX.out.only.trans hny.drewL⟩⟩)
        · have T9 := Lib.hid (HIH.out j2 (.ok (x, j3)) HIX.out ha wx.drew (HAX.out.rd.keep (Below.refl _ _).drew) (HE0.out.only HAX.out.only.drew))
          have HJ3 := Lib.hid (show j2 ≤ j3 from Nat.le_trans (Nat.le_add_right _ _) (rd_on ha x j3 rfl HAX.out.rd.le).1)
          clear ha
          refine wp_region_held (S := fun _ => True) (by kernel_rfl) ?_
          change wpAnyH _ _ _ _ _ _ _ _ wx.drew
          refine takeH (i := 0) (d := some 25) (v := .pointer (some ⟨b6, 5, none⟩)) rfl rfl (by kernel_rfl) (by kernel_rfl) (by kernel_rfl) (fun _ _ _ h => h) (Or.inl ⟨by rfl, fun w' _ => by go_simp⟩) trivial ?_
          simp only [Act.put, List.setIfInBounds_toArray, List.set_cons_zero, List.set_cons_succ]
          refine takeH (i := 2) (d := some 27) (v := .pointer (some ⟨rb, 0, none⟩)) rfl rfl (by kernel_rfl) (by kernel_rfl) (by kernel_rfl) (fun _ _ _ h => h) (Or.inl ⟨by rfl, fun w' _ => by go_simp⟩) trivial ?_
          simp only [Act.put, List.setIfInBounds_toArray, List.set_cons_zero, List.set_cons_succ]
          refine wpAnyH_all (rs := [1, 3]) (by kernel_rfl) (by simp) (fun jj hj => ?_)
          rcases (by simpa using hj : jj = 1 ∨ jj = 3) with rfl | rfl
          · skip
            have c5 := (show wx.drew.cell? ⟨b6, 5, none⟩ = some (.slice A' k c') from HAX.out.cell)
            refine wpOp_valueD (d := some 26) rfl rfl (by rfl) (v := .slice A' k c') (w' := wx.drew) (by go_simp) ?_
            clear c5
            refine ⟨trivial, ?_⟩
            simp only [Act.put, List.setIfInBounds_toArray, List.set_cons_zero, List.set_cons_succ]
            refine wpAnyH_all (rs := [3]) (by kernel_rfl) (by simp) (fun jj hj => ?_)
            obtain rfl : jj = 3 := by simpa using hj
            refine wpOp_returnsD (d := some 28) rfl rfl (by rfl) (f := 82) (args := #[.pointer (some ⟨rb, 0, none⟩)]) (by go_simp) T9.out ?_
            rintro e wy ⟨y, rfl, hsy, hst, hry, hny⟩
            refine ⟨_, rfl, trivial, ?_⟩
            unfold exV
            simp only [Act.put, List.setIfInBounds_toArray, List.set_cons_zero, List.set_cons_succ]
            have HAY := Lib.hid (HAX.out.to hny.drewL hry)
            refine wpAnyH_all (rs := [4]) (by kernel_rfl) (by simp) (fun jj hj => ?_)
            obtain rfl : jj = 4 := by simpa using hj
            have hbz := belowNew' wy (.cells #[.string y.op, .string y.name, .int .i64 y.val.type, .int .i64 y.val.n, .string y.val.s, .slice y.A y.args.length y.c, .int .i64 y.pos] 26)
            have hrow : (wy.alloc (.cells #[.string y.op, .string y.name, .int .i64 y.val.type, .int .i64 y.val.n, .string y.val.s, .slice y.A y.args.length y.c, .int .i64 y.pos] 26)).heap[wy.heap.size]? = some (.cells (exsCells [y]).toArray 26 (0, 0)) := heap_alloc_new wy _
            refine wpOp_valueD (d := some 29) rfl rfl (by rfl) (v := .slice (some ⟨wy.heap.size, 0, none⟩) 1 1) (w' := wy.alloc (.cells #[.string y.op, .string y.name, .int .i64 y.val.type, .int .i64 y.val.n, .string y.val.s, .slice y.A y.args.length y.c, .int .i64 y.pos] 26)) (by go_simp) ?_
            generalize wy.alloc (.cells #[.string y.op, .string y.name, .int .i64 y.val.type, .int .i64 y.val.n, .string y.val.s, .slice y.A y.args.length y.c, .int .i64 y.pos] 26) = wz at hbz hrow ⊢
            refine ⟨trivial, ?_⟩
            simp only [Act.put, List.setIfInBounds_toArray, List.set_cons_zero, List.set_cons_succ]
            have HAZ := Lib.hid (HAY.out.to (.of_below hbz) (hry.keep hbz))
            refine wpAnyH_all (rs := [5]) (by kernel_rfl) (by simp) (fun jj hj => ?_)
            obtain rfl : jj = 5 := by simpa using hj
            refine wpOp_append_one (d := some 30) exSlice rfl rfl rfl (.tmp 26) (.tmp 29) rfl (v := .slice A' k c') (n := k) (xs := exsCells ys) (ys := [.string y.op, .string y.name, .int .i64 y.val.type, .int .i64 y.val.n, .string y.val.s, .slice y.A y.args.length y.c, .int .i64 y.pos]) (b := wy.heap.size) (c := 1) (B := b6 + 1) (H := wz.heap.size) rfl rfl HAZ.out.row HAZ.out.own.lt rfl (fun q u hu => ?_) (exs_cell' [y]) (by omega) rfl ?_
            · have hu' : (exsCells [y])[q]? = some u := hu
              have hcq : wz.cell? ⟨wy.heap.size, q, none⟩ = some u := by rw [cell_of_row _ _ _ _ _ _ hrow]; simpa using hu'
              rw [addr_add0]; exact hcq
            intro g cap wf hown hgr hat
            obtain ⟨q1, q2, hmore⟩ := HAX.out.more hny.drewL hry hsy hbz hown hgr hat
            have HMORE := Lib.hid hmore
            refine ⟨trivial, ?_⟩
            simp only [Act.put, List.setIfInBounds_toArray, List.set_cons_zero, List.set_cons_succ]
            clear hown hgr hat hmore hbz hrow hsy hry hny
            refine wpAnyH_all (rs := [6]) (by kernel_rfl) (by simp) (fun jj hj => ?_)
            obtain rfl : jj = 6 := by simpa using hj
            refine wpOp_valueD (d := some 31) rfl rfl (by rfl) (v := .pointer (some ⟨b6, 5, none⟩)) (w' := wf) (by go_simp) ?_
            refine ⟨trivial, ?_⟩
            simp only [Act.put, List.setIfInBounds_toArray, List.set_cons_zero, List.set_cons_succ]
            refine wpAnyH_all (rs := [7]) (by kernel_rfl) (by simp) (fun jj hj => ?_)
            obtain rfl : jj = 7 := by simpa using hj
            refine wpOp_skip rfl (by rfl) (w' := wf.setCell ⟨b6, 5, none⟩ (.slice (some ⟨g, 0, none⟩) (k + 1) cap)) (by go_simp) ?_
            refine ⟨trivial, ?_⟩
            refine wpAnyH_done (by kernel_rfl) ?_ _
            generalize wf.setCell ⟨b6, 5, none⟩ (.slice (some ⟨g, 0, none⟩) (k + 1) cap) = wg at HMORE ⊢
            clear q1 q2
            go_wp2_with fail
            go_roundw
            case rel => exact ⟨k + 1, j3, _, _, _, rfl, by omega, by have := HIX.out; have := HJ3.out; omega, by rw [strips_map, List.map_append, ← strips_map, List.map_cons, List.map_nil, hst]; exact hr, HMORE.out⟩
            case measure => simp only [intOf]; omega
          · skip
            refine wpOp_returnsD (d := some 28) rfl rfl (by rfl) (f := 82) (args := #[.pointer (some ⟨rb, 0, none⟩)]) (by go_simp) T9.out ?_
            rintro e wy ⟨y, rfl, hsy, hst, hry, hny⟩
            refine ⟨_, rfl, trivial, ?_⟩
            unfold exV
            simp only [Act.put, List.setIfInBounds_toArray, List.set_cons_zero, List.set_cons_succ]
            have HAY := Lib.hid (HAX.out.to hny.drewL hry)
            refine wpAnyH_all (rs := [1, 4]) (by kernel_rfl) (by simp) (fun jj hj => ?_)
            rcases (by simpa using hj : jj = 1 ∨ jj = 4) with rfl | rfl
            · skip
              have c5 := HAY.out.cell
              refine wpOp_valueD (d := some 26) rfl rfl (by rfl) (v := .slice A' k c') (w' := wy) (by go_simp) ?_
              clear c5
              refine ⟨trivial, ?_⟩
              simp only [Act.put, List.setIfInBounds_toArray, List.set_cons_zero, List.set_cons_succ]
              refine wpAnyH_all (rs := [4]) (by kernel_rfl) (by simp) (fun jj hj => ?_)
              obtain rfl : jj = 4 := by simpa using hj
              have hbz := belowNew' wy (.cells #[.string y.op, .string y.name, .int .i64 y.val.type, .int .i64 y.val.n, .string y.val.s, .slice y.A y.args.length y.c, .int .i64 y.pos] 26)
              have hrow : (wy.alloc (.cells #[.string y.op, .string y.name, .int .i64 y.val.type, .int .i64 y.val.n, .string y.val.s, .slice y.A y.args.length y.c, .int .i64 y.pos] 26)).heap[wy.heap.size]? = some (.cells (exsCells [y]).toArray 26 (0, 0)) := heap_alloc_new wy _
              refine wpOp_valueD (d := some 29) rfl rfl (by rfl) (v := .slice (some ⟨wy.heap.size, 0, none⟩) 1 1) (w' := wy.alloc (.cells #[.string y.op, .string y.name, .int .i64 y.val.type, .int .i64 y.val.n, .string y.val.s, .slice y.A y.args.length y.c, .int .i64 y.pos] 26)) (by go_simp) ?_
              generalize wy.alloc (.cells #[.string y.op, .string y.name, .int .i64 y.val.type, .int .i64 y.val.n, .string y.val.s, .slice y.A y.args.length y.c, .int .i64 y.pos] 26) = wz at hbz hrow ⊢
              refine ⟨trivial, ?_⟩
              simp only [Act.put, List.setIfInBounds_toArray, List.set_cons_zero, List.set_cons_succ]
              have HAZ := Lib.hid (HAY.out.to (.of_below hbz) (hry.keep hbz))
              refine wpAnyH_all (rs := [5]) (by kernel_rfl) (by simp) (fun jj hj => ?_)
              obtain rfl : jj = 5 := by simpa using hj
              refine wpOp_append_one (d := some 30) exSlice rfl rfl rfl (.tmp 26) (.tmp 29) rfl (v := .slice A' k c') (n := k) (xs := exsCells ys) (ys := [.string y.op, .string y.name, .int .i64 y.val.type, .int .i64 y.val.n, .string y.val.s, .slice y.A y.args.length y.c, .int .i64 y.pos]) (b := wy.heap.size) (c := 1) (B := b6 + 1) (H := wz.heap.size) rfl rfl HAZ.out.row HAZ.out.own.lt rfl (fun q u hu => ?_) (exs_cell' [y]) (by omega) rfl ?_
              · have hu' : (exsCells [y])[q]? = some u := hu
                have hcq : wz.cell? ⟨wy.heap.size, q, none⟩ = some u := by rw [cell_of_row _ _ _ _ _ _ hrow]; simpa using hu'
                rw [addr_add0]; exact hcq
              intro g cap wf hown hgr hat
              obtain ⟨q1, q2, hmore⟩ := HAX.out.more hny.drewL hry hsy hbz hown hgr hat
              have HMORE := Lib.hid hmore
              refine ⟨trivial, ?_⟩
              simp only [Act.put, List.setIfInBounds_toArray, List.set_cons_zero, List.set_cons_succ]
              clear hown hgr hat hmore hbz hrow hsy hry hny
              refine wpAnyH_all (rs := [6]) (by kernel_rfl) (by simp) (fun jj hj => ?_)
              obtain rfl : jj = 6 := by simpa using hj
              refine wpOp_valueD (d := some 31) rfl rfl (by rfl) (v := .pointer (some ⟨b6, 5, none⟩)) (w' := wf) (by go_simp) ?_
              refine ⟨trivial, ?_⟩
              simp only [Act.put, List.setIfInBounds_toArray, List.set_cons_zero, List.set_cons_succ]
              refine wpAnyH_all (rs := [7]) (by kernel_rfl) (by simp) (fun jj hj => ?_)
              obtain rfl : jj = 7 := by simpa using hj
              refine wpOp_skip rfl (by rfl) (w' := wf.setCell ⟨b6, 5, none⟩ (.slice (some ⟨g, 0, none⟩) (k + 1) cap)) (by go_simp) ?_
              refine ⟨trivial, ?_⟩
              refine wpAnyH_done (by kernel_rfl) ?_ _
              generalize wf.setCell ⟨b6, 5, none⟩ (.slice (some ⟨g, 0, none⟩) (k + 1) cap) = wg at HMORE ⊢
              clear q1 q2
              go_wp2_with fail
              go_roundw
              case rel => exact ⟨k + 1, j3, _, _, _, rfl, by omega, by have := HIX.out; have := HJ3.out; omega, by rw [strips_map, List.map_append, ← strips_map, List.map_cons, List.map_nil, hst]; exact hr, HMORE.out⟩
              case measure => simp only [intOf]; omega
            · skip
              have hbz := belowNew' wy (.cells #[.string y.op, .string y.name, .int .i64 y.val.type, .int .i64 y.val.n, .string y.val.s, .slice y.A y.args.length y.c, .int .i64 y.pos] 26)
              have hrow : (wy.alloc (.cells #[.string y.op, .string y.name, .int .i64 y.val.type, .int .i64 y.val.n, .string y.val.s, .slice y.A y.args.length y.c, .int .i64 y.pos] 26)).heap[wy.heap.size]? = some (.cells (exsCells [y]).toArray 26 (0, 0)) := heap_alloc_new wy _
              refine wpOp_valueD (d := some 29) rfl rfl (by rfl) (v := .slice (some ⟨wy.heap.size, 0, none⟩) 1 1) (w' := wy.alloc (.cells #[.string y.op, .string y.name, .int .i64 y.val.type, .int .i64 y.val.n, .string y.val.s, .slice y.A y.args.length y.c, .int .i64 y.pos] 26)) (by go_simp) ?_
              generalize wy.alloc (.cells #[.string y.op, .string y.name, .int .i64 y.val.type, .int .i64 y.val.n, .string y.val.s, .slice y.A y.args.length y.c, .int .i64 y.pos] 26) = wz at hbz hrow ⊢
              refine ⟨trivial, ?_⟩
              simp only [Act.put, List.setIfInBounds_toArray, List.set_cons_zero, List.set_cons_succ]
              have HAZ := Lib.hid (HAY.out.to (.of_below hbz) (hry.keep hbz))
              refine wpAnyH_all (rs := [1]) (by kernel_rfl) (by simp) (fun jj hj => ?_)
              obtain rfl : jj = 1 := by simpa using hj
              have c5 := HAZ.out.cell
              refine wpOp_valueD (d := some 26) rfl rfl (by rfl) (v := .slice A' k c') (w' := wz) (by go_simp) ?_
              clear c5
              refine ⟨trivial, ?_⟩
              simp only [Act.put, List.setIfInBounds_toArray, List.set_cons_zero, List.set_cons_succ]
              refine wpAnyH_all (rs := [5]) (by kernel_rfl) (by simp) (fun jj hj => ?_)
              obtain rfl : jj = 5 := by simpa using hj
              refine wpOp_append_one (d := some 30) exSlice rfl rfl rfl (.tmp 26) (.tmp 29) rfl (v := .slice A' k c') (n := k) (xs := exsCells ys) (ys := [.string y.op, .string y.name, .int .i64 y.val.type, .int .i64 y.val.n, .string y.val.s, .slice y.A y.args.length y.c, .int .i64 y.pos]) (b := wy.heap.size) (c := 1) (B := b6 + 1) (H := wz.heap.size) rfl rfl HAZ.out.row HAZ.out.own.lt rfl (fun q u hu => ?_) (exs_cell' [y]) (by omega) rfl ?_
              · have hu' : (exsCells [y])[q]? = some u := hu
                have hcq : wz.cell? ⟨wy.heap.size, q, none⟩ = some u := by rw [cell_of_row _ _ _ _ _ _ hrow]; simpa using hu'
                rw [addr_add0]; exact hcq
              intro g cap wf hown hgr hat
              obtain ⟨q1, q2, hmore⟩ := HAX.out.more hny.drewL hry hsy hbz hown hgr hat
              have HMORE := Lib.hid hmore
              refine ⟨trivial, ?_⟩
              simp only [Act.put, List.setIfInBounds_toArray, List.set_cons_zero, List.set_cons_succ]
              clear hown hgr hat hmore hbz hrow hsy hry hny
              refine wpAnyH_all (rs := [6]) (by kernel_rfl) (by simp) (fun jj hj => ?_)
              obtain rfl : jj = 6 := by simpa using hj
              refine wpOp_valueD (d := some 31) rfl rfl (by rfl) (v := .pointer (some ⟨b6, 5, none⟩)) (w' := wf) (by go_simp) ?_
              refine ⟨trivial, ?_⟩
              simp only [Act.put, List.setIfInBounds_toArray, List.set_cons_zero, List.set_cons_succ]
              refine wpAnyH_all (rs := [7]) (by kernel_rfl) (by simp) (fun jj hj => ?_)
              obtain rfl : jj = 7 := by simpa using hj
              refine wpOp_skip rfl (by rfl) (w' := wf.setCell ⟨b6, 5, none⟩ (.slice (some ⟨g, 0, none⟩) (k + 1) cap)) (by go_simp) ?_
              refine ⟨trivial, ?_⟩
              refine wpAnyH_done (by kernel_rfl) ?_ _
              generalize wf.setCell ⟨b6, 5, none⟩ (.slice (some ⟨g, 0, none⟩) (k + 1) cap) = wg at HMORE ⊢
              clear q1 q2
              go_wp2_with fail
              go_roundw
              case rel => exact ⟨k + 1, j3, _, _, _, rfl, by omega, by have := HIX.out; have := HJ3.out; omega, by rw [strips_map, List.map_append, ← strips_map, List.map_cons, List.map_nil, hst]; exact hr, HMORE.out⟩
              case measure => simp only [intOf]; omega
    · have g1 : decide ((k : Int) < (m : Int)) = false := decide_eq_false (by omega)
      have T5 := Lib.hid (need_any HAR.out.rd HWW.out ⟨#[41]⟩)
      have HEND := Lib.hid (show (isT T j (⟨#[41]⟩ : ByteArray).data.toList = true ∧ r = .ok (opEx wd (strips ys) (atT T E i), j + 1)) ∨ (isT T j (⟨#[41]⟩ : ByteArray).data.toList = false ∧ r = .error (atT T E j)) by
        rcases HC.out with ⟨-, h⟩ | ⟨h, -⟩ | ⟨h, -⟩
        · exact h
        · have := HLS.out; omega
        · have := HLS.out; omega)
      have HK := Lib.hid (show 0 < k by have := HM.out.1; omega)
      clear HC HLS hk g1
      go_wp2_with fail
      refine (T5.out).mono ?_
      rintro e wx (⟨hc, rfl, hrx, hnx⟩ | ⟨hc, rfl, hnx⟩)
      · have HR := Lib.hid (show r = .ok (opEx wd (strips ys) (atT T E i), j + 1) from by
          rcases HEND.out with ⟨_, h⟩ | ⟨h, _⟩
          · exact h
          · rw [hc] at h; cases h)
        have HAX := Lib.hid (HAR.out.to hnx hrx)
        obtain ⟨t0, t1, t2, t3, t4, t5, t6⟩ := HAX.out.own.cells
        have hlb := HAX.out.own.lt
        clear hc hrx hnx T5 HAR HEND
        go_wp2_with (first
          | (refine wpList_put7 rfl (.tmp 4) (.tmp 35) rfl (X := .mk (mkB wd) ⟨#[]⟩ noVal A' c' ys (atT T E i)) HAX.out.res rfl (by rfl) ?_; intro wg hzg hog; have HZG := Lib.hid hzg; have HOG := Lib.hid hog; clear hzg hog))
        obtain ⟨o0, o1, o2, o3, o4, o5, o6⟩ := HZG.out.cells
        refine bodyPost_ret (v := exV (.mk (mkB wd) ⟨#[]⟩ noVal A' c' ys (atT T E i))) ?_ rfl ?_
        · simp [results, Tryz.results260, go_sem, o0, o1, o2, o3, o4, o5, o6, exV]
        · rw [HR.out]
          exact HAX.out.says HK.out HM.out.2 (fits_at HWW.out i) HOG.out
      · have HR := Lib.hid (show r = .error (atT T E j) from by
          rcases HEND.out with ⟨h, _⟩ | ⟨_, h⟩
          · rw [hc] at h; cases h
          · exact h)
        have HF := Lib.hid (HAR.out.only.trans hnx)
        clear hc hnx T5 HEND
        unfold wrongAt
        go_wp2_with fail
        rw [HR.out]
        exact ⟨rfl, rfl, HF.out⟩
end Go.Proofs.YtpbbkpfaphjdoaaGreatDoor
