/- tree.Reader's Expr, Done, NewReader, walked. tree.Reader's call, walked: len, if: what they are called with. -/
import Derived.Test.YtecdgdgdlmancaaGreatDoorRdGo
namespace Go.Proofs.YtecdgdgdlmancaaGreatDoor
open Go.ChangeShapes Go.WideShapes Go.ChangeAt Go.RowKit

set_option maxHeartbeats 4000000 in
set_option maxRecDepth 100000 in
theorem expr_any {T : List Tok} {E : Nat} {i : Nat} {r : PR} (wB w : World) (rb : Nat) (A : Option Addr) (c : Nat) (hR : RdAt T E w rb A c i) (hE : Env wB w rb)
    (IH : ∀ w' : World, RdAt T E w' rb A c i → Env wB w' rb → Calls Tryz.prog 35 #[.pointer (some ⟨rb, 0, none⟩), .int .i64 0] w' (RSays T E rb A c w' r)) :
    Calls Tryz.prog 19 #[.pointer (some ⟨rb, 0, none⟩)] w (RSays T E rb A c w r) := by
  obtain ⟨w3, hw0, ho0, hb0⟩ := box_zeroE w
  have HW0 := Lib.hid hw0
  have HLT := Lib.hid hR.lt
  have HOLD := Lib.hid (show 0 < T.length → ∀ ad, A = some ad → ad.block < w.heap.size from hR.old)
  have T3 := Lib.hid (IH w3 (hR.keep hb0) (hE.keep hb0))
  have HN3 := Lib.hid (Only.of_below (S := fun k => k = rb) hb0)
  have HLW3 := Lib.hid (show w.heap.size < w3.heap.size from ho0.lt)
  have HZ4 := Lib.hid (show ∀ w4, Only (fun k => k = rb) w3 w4 → Own7 w4 w.heap.size zeroE from fun w4 h4 => own7_only ho0 h4 (by have := HLT.out; omega))
  clear hR hE IH hw0 ho0 hb0
  go_enter Tryz.func19, Tryz.ntmps19
  go_wp2_with (first | rw [HW0.out])
  match r, T3 with
  | .error k, T3 =>
    refine (T3.out).mono ?_
    rintro e w4 ⟨rfl, hn4⟩
    have HF := Lib.hid (HN3.out.trans hn4)
    clear hn4
    unfold wrongAt
    go_wp2_with fail
    exact ⟨rfl, rfl, HF.out⟩
  | .ok (x, jx), T3 =>
    refine (T3.out).mono ?_
    rintro e w4 ⟨y, rfl, hsy, hst, hr4, hn4⟩
    have HSY := Lib.hid hsy
    have HST := Lib.hid hst
    have HR4 := Lib.hid hr4
    have HN4 := Lib.hid (HN3.out.trans hn4)
    have HZZ := Lib.hid (HZ4.out w4 hn4)
    clear hsy hst hr4 hn4
    go_wp2_with (first
      | (refine wpList_put7 rfl (.tmp 2) (.tmp 4) rfl (X := y) HZZ.out rfl (by rfl) ?_; intro w6 hz6 ho6; have HZ6 := Lib.hid hz6; have HO6 := Lib.hid ho6; clear hz6 ho6))
    obtain ⟨o0, o1, o2, o3, o4, o5, o6⟩ := HZ6.out.cells
    refine bodyPost_ret (v := exV y) ?_ rfl ?_
    · simp [results, Tryz.results19, go_sem, o0, o1, o2, o3, o4, o5, o6, exV]
    · exact says_put HN4.out HR4.out HSY.out (fun b hb => by have := HLW3.out; have hb' : w3.heap.size ≤ b := hb; exact ⟨by omega, by omega⟩) HST.out HO6.out rfl HLT.out HOLD.out
/-- Nothing may follow. -/
def DoneSays (T : List Tok) (E i : Nat) (w : World) (e : Ending) (w' : World) : Prop :=
  (T.length ≤ i ∧ e = .returned (.tuple #[]) ∧ Below w.heap.size w w') ∨ (i < T.length ∧ e = wrongAt (atT T E i) ∧ Below w.heap.size w w')
set_option maxHeartbeats 1000000 in
set_option maxRecDepth 100000 in
theorem done_any {T : List Tok} {E : Nat} {w : World} {rb : Nat} {A : Option Addr} {c i : Nat} (h : RdAt T E w rb A c i) (hW : Words T E) : Calls Tryz.prog 34 #[.pointer (some ⟨rb, 0, none⟩)] w (DoneSays T E i w) := by
  obtain ⟨c0, c1, c2⟩ := h.cells
  have HR := Lib.hid h
  have HWW := Lib.hid hW
  have hcap : T.length ≤ c := h.toks.2.2.1
  have hmax : c ≤ maxLen := h.toks.2.2.2.1
  unfold maxLen at hmax
  obtain ⟨n, hn⟩ : ∃ n, T.length = n := ⟨_, rfl⟩
  have HN := Lib.hid hn
  rw [hn] at c0 hcap
  clear h hW hn
  by_cases hi : i < n
  · have g1 : decide ((i : Int) < (n : Int)) = true := decide_eq_true (by omega)
    have HI := Lib.hid hi
    clear hi
    go_enter Tryz.func34, Tryz.ntmps34
    go_wp2_with fail
    go_quiet (fail)
    have hby : Below w.heap.size w (w.drewN nq) := below_drewN (Below.refl _ _) nq
    have T1 := Lib.hid (fail_any (HR.out.keep hby) HWW.out)
    have HBY := Lib.hid hby
    generalize w.drewN nq = wy at T1 HBY ⊢
    clear hby
    go_wp2_with fail
    refine (T1.out).mono ?_
    rintro e' w1 ⟨rfl, hb1⟩
    have HB1 := Lib.hid (below_step HBY.out hb1)
    clear hb1
    unfold wrongAt
    go_wp2_with fail
    exact ⟨rfl, Or.inr ⟨by rw [HN.out]; exact HI.out, rfl, HB1.out⟩⟩
  · have g1 : decide ((i : Int) < (n : Int)) = false := decide_eq_false (by omega)
    have HI := Lib.hid hi
    clear hi
    go_enter Tryz.func34, Tryz.ntmps34
    go_wp2_with fail
    go_quiet (fail)
    go_wp2_with fail
    go_end0
    exact Or.inl ⟨by have := HI.out; rw [HN.out]; omega, rfl, below_drewN (Below.refl _ _) nq⟩
set_option maxHeartbeats 1000000 in
set_option maxRecDepth 100000 in
theorem newReader_any (T : List Tok) (A : Option Addr) (c : Nat) (s : ByteArray) (w : World) (ht : SeesToks w A T.length c T) :
    Calls Tryz.prog 33 #[.slice A T.length c, .string s] w fun e w' => ∃ rb, e = .returned (.pointer (some ⟨rb, 0, none⟩)) ∧ w.heap.size ≤ rb ∧ RdAt T s.size w' rb A c 0 ∧ Below w.heap.size w w' := by
  have HT := Lib.hid ht
  have hcap : T.length ≤ c := ht.2.2.1
  have hmax : c ≤ maxLen := ht.2.2.2.1
  unfold maxLen at hmax
  obtain ⟨n, hn⟩ : ∃ n, T.length = n := ⟨_, rfl⟩
  have HN := Lib.hid hn
  rw [hn] at hcap ⊢
  clear ht hn
  go_enter Tryz.func33, Tryz.ntmps33
  go_wp2_with fail
  go_ret
  refine ⟨w.heap.size, rfl, Nat.le_refl _, ?_, belowNew' _ _⟩
  have hb := belowNew' w (.cells #[.slice A T.length c, .int .i64 0, .int .i64 s.size] 91)
  rw [HN.out] at hb
  refine ⟨by rw [HN.out]; exact heap_alloc_new w _, HT.out.keep hb, fun h0 ad e => ?_, Nat.zero_le _⟩
  obtain ⟨g, o, e2, hg, _⟩ := HT.out.2.2.2.2.2 h0
  rw [e] at e2
  injection e2 with e2
  rw [e2]
  exact Nat.ne_of_lt hg
end Go.Proofs.YtecdgdgdlmancaaGreatDoor
namespace Go.Proofs.YtecdgdgdlmancaaGreatDoor
open Go.ChangeShapes Go.WideShapes Go.ChangeAt Go.RowKit

theorem ar_cases {T : List Tok} {E : Nat} {wd : List UInt8} {p m i : Nat} {acc : List Ex} {r : PR} (h : Rd T E (.ar wd p m acc) i r) :
    (acc.length = m ∧ ((isT T i wClose = true ∧ r = .ok (opEx wd acc p, i + 1)) ∨ (isT T i wClose = false ∧ r = .error (atT T E i)))) ∨
    (acc.length < m ∧ acc ≠ [] ∧ isT T i wComma = false ∧ r = .error (atT T E i)) ∨
    (acc.length < m ∧ ∃ i', (acc = [] ∧ i' = i ∨ acc ≠ [] ∧ isT T i wComma = true ∧ i' = i + 1) ∧ ((∃ k, Rd T E (.lv 0) i' (.error k) ∧ r = .error k) ∨ ∃ x j, Rd T E (.lv 0) i' (.ok (x, j)) ∧ Rd T E (.ar wd p m (acc ++ [x])) j r)) := by
  cases h with
  | arEnd h c => exact Or.inl ⟨h, Or.inl ⟨c, rfl⟩⟩
  | arEndN h c => exact Or.inl ⟨h, Or.inr ⟨c, rfl⟩⟩
  | arFirst h a b => exact Or.inr (Or.inr ⟨h, _, Or.inl ⟨rfl, rfl⟩, Or.inr ⟨_, _, a, b⟩⟩)
  | arFirstE h a => exact Or.inr (Or.inr ⟨h, _, Or.inl ⟨rfl, rfl⟩, Or.inl ⟨_, a, rfl⟩⟩)
  | arGo h h0 c a b => exact Or.inr (Or.inr ⟨h, _, Or.inr ⟨h0, c, rfl⟩, Or.inr ⟨_, _, a, b⟩⟩)
  | arGoE h h0 c a => exact Or.inr (Or.inr ⟨h, _, Or.inr ⟨h0, c, rfl⟩, Or.inl ⟨_, a, rfl⟩⟩)
  | arGoN h h0 c => exact Or.inr (Or.inl ⟨h, h0, c, rfl⟩)
theorem built_opp (op : ByteArray) (pos : Int) : Tryz.prog.built 28 [(0, Value.string op), (4, .int .i64 pos)] = some #[.string op, .string ⟨#[]⟩, .int .i64 0, .int .i64 0, .string ⟨#[]⟩, .slice none 0 0, .int .i64 pos] := by kernel_rfl
theorem run_opp (op : ByteArray) (pos : Int) (w : World) : (Instr.build 28 #[(0, .string op), (4, .int .i64 pos)]).run Tryz.prog w = .ok (.agg #[.string op, .string ⟨#[]⟩, .int .i64 0, .int .i64 0, .string ⟨#[]⟩, .slice none 0 0, .int .i64 pos]) w :=
  run_build w _ _ _ (built_opp op pos)
/-- append of one, just laid, in a region that is taken step by step. -/
theorem wpOp_append_one {P : Program} {t e : TypeId} {z : Value} {size bytes : Nat} (hS : SliceTy P t e z size bytes)
    {ops : Array Oper} {o : Oper} {a : Act} {K : Act → World → Prop} {Q : Exit → Act → World → Prop} {j : Nat} {d : Option Tmp} (hj : ops[j]? = some o) (hd : o.dst = d) (hgd : o.guard = none) (s x : Operand)
    (ho : o.op = .call { callee := .builtin .append, args := #[s, x], argTypes := #[t, t] })
    {B H : Nat} {w : World} {v : Value} {n : Nat} {xs ys : List Value} {b c : Nat}
    (hs : a.eval s = v) (hx : a.eval x = .slice (some ⟨b, 0, none⟩) 1 c)
    (hown : w.ownsRow B e size v n xs) (hB : B ≤ w.heap.size) (hys : ys.length = size) (hcell : ∀ j u, ys[j]? = some u → w.cell? ((⟨b, 0, none⟩ : Addr).add j) = some u) (h1 : ∀ u ∈ ys, u.oneCell' = true)
    (hn : (n + 1) * bytes ≤ 140737488355328) (hH : w.heap.size = H)
    (h : ∀ g cap w', w'.ownsRow B e size (.slice (some ⟨g, 0, none⟩) (n + 1) cap) (n + 1) (xs ++ ys) → w.grownBy w' v.ownBlock → (v.ownBlock = some g ∨ g = H) → K (a.put d (.slice (some ⟨g, 0, none⟩) (n + 1) cap)) w') : wpOp P ops Q j K a w := by
  subst hd
  obtain ⟨ht, h2, h3, hzs, i, hi, hz, hsz, hby⟩ := hS
  have hm : n + 1 ≤ (n + 1) * bytes := Nat.le_mul_of_pos_right _ h3
  have hw : Region.wanted o (yielded ops a.tmps) = true := by simp [Region.wanted, hgd]
  unfold wpOp
  simp only [hj, hw, if_true]
  left
  exact wp_append_lies w s x t ho B e i z size bytes ht hi hz hsz hby hzs h2 v n xs hs hown ⟨b, 0, none⟩ 1 c ys hx (by simpa using hys) hcell h1 (by decide) (by unfold maxLen; omega) hn hB H hH (fun g cap w' k1 k2 k3 _ => h g cap w' k1 k2 k3)
set_option maxHeartbeats 4000000 in
set_option maxRecDepth 100000 in
theorem call_no {T : List Tok} {E : Nat} (hW : Words T E) {i : Nat} {wd : List UInt8} (h : isT T i wd = true) (o : isT T (i + 1) wOpen = false) (m : Nat) (w : World) (rb : Nat) (A : Option Addr) (c : Nat) (hR : RdAt T E w rb A c i) :
    Calls Tryz.prog 112 #[.pointer (some ⟨rb, 0, none⟩), .int .i64 m] w (RSays T E rb A c w (.error (atT T E (i + 1)))) := by
  obtain ⟨w0, hw0, ho0, hb0⟩ := box_zeroE w
  have HO0 := Lib.hid ho0
  have HW0 := Lib.hid hw0
  have hil := isT_lt h
  have T1 := Lib.hid (take_any (hR.keep hb0) hW hil)
  have HWW := Lib.hid hW
  have HLT := Lib.hid hR.lt
  have HOLD := Lib.hid (show 0 < T.length → ∀ ad, A = some ad → ad.block < w.heap.size from hR.old)
  have HB0 := Lib.hid hb0
  have HO := Lib.hid (show isT T (i + 1) (⟨#[40]⟩ : ByteArray).data.toList = false from o)
  unfold TakeSays tokV at T1
  rw [isT_text h] at T1
  clear hW h hR hw0 ho0 hb0 o hil
  go_enter Tryz.func112, Tryz.ntmps112
  go_wp2_with (first | rw [HW0.out])
  refine (T1.out).mono ?_
  rintro e' w1 ⟨rfl, hr1, hn1⟩
  obtain ⟨w2, hw2⟩ : ∃ w2, w1.alloc (.cells #[.int .i64 (kindT T i), .string ⟨wd.toArray⟩, .int .i64 (atT T E i)] 80) = w2 := ⟨_, rfl⟩
  have hb2 : Below w1.heap.size w1 w2 := by rw [← hw2]; exact belowNew' _ _
  have ho2 : Own3T w2 w1.heap.size (kindT T i) ⟨wd.toArray⟩ (atT T E i) := by rw [← hw2]; exact own3t_new w1 _ _ _
  obtain ⟨w3, hw3⟩ : ∃ w3, w2.alloc (.cells #[.string ⟨wd.toArray⟩, .string ⟨#[]⟩, .int .i64 0, .int .i64 0, .string ⟨#[]⟩, .slice none 0 0, .int .i64 (atT T E i)] 28) = w3 := ⟨_, rfl⟩
  have hb3 : Below w2.heap.size w2 w3 := by rw [← hw3]; exact belowNew' _ _
  have ho3 : Own7 w3 w2.heap.size (.mk (mkB wd) ⟨#[]⟩ noVal none 0 [] (atT T E i)) := by rw [← hw3]; exact own7_new w2 (.mk (mkB wd) ⟨#[]⟩ noVal none 0 [] (atT T E i))
  obtain ⟨d0, d1, d2⟩ := ho2.cells
  have hl2 := ho2.lt
  have bd := run_opp ⟨wd.toArray⟩ (atT T E i)
  have T2 := Lib.hid (need_any ((hr1.keep hb2).keep hb3) HWW.out ⟨#[40]⟩)
  rw [HO.out] at T2
  have HN3 := Lib.hid (((Only.of_below HB0.out).trans hn1).trans ((Only.of_below (S := fun k => k = rb) hb2).trans (.of_below hb3)))
  have HO3 := Lib.hid ho3
  have HSZ := Lib.hid (show w.heap.size < w1.heap.size ∧ w1.heap.size < w2.heap.size from ⟨Nat.lt_of_lt_of_le HO0.out.lt hn1.size, ho2.lt⟩)
  have HZ3 := Lib.hid (((own7_only HO0.out hn1 (by have := HLT.out; omega)).keep hb2).keep hb3)
  have HW2 := Lib.hid hw2
  have HW3 := Lib.hid hw3
  clear hw2 hb2 ho2 hw3 hb3 ho3 hr1 hn1 T1
  go_wp2_with (first | rw [HW2.out] | rw [HW3.out])
  refine (T2.out).mono ?_
  rintro e w4 (⟨hh, -, -, -⟩ | ⟨-, rfl, hn4⟩)
  · cases hh
  · have HF := Lib.hid (HN3.out.trans hn4)
    clear hn4 T2
    unfold wrongAt
    go_wp2_with fail
    exact ⟨rfl, rfl, HF.out⟩
end Go.Proofs.YtecdgdgdlmancaaGreatDoor
