/- Words of a text, plain: how many there may be, how long; what a law asks of them. tree.Reader's Expr over any words: it comes to what is read of them. The words of a text, plain: what is known of each of them. What tree.Read defers: a panic of a text that is wrong is caught. tree.Read, walked: the words of a text, read by what it is given; where that goes wrong it panics, which is caught. tree.Parse, walked: what a text comes to as an expression, or where it goes wrong. -/
import Derived.Test.YtpbbkpfaphjdoaaGreatDoorLexBack0
import Derived.Test.YtpbbkpfaphjdoaaGreatDoorRdPrim
import Derived.Test.YtpbbkpfaphjdoaaGreatDoorRdr
import Derived.Defers
import Derived.Recover
namespace Go.Proofs.YtpbbkpfaphjdoaaGreatDoor
theorem lexS_ok {s : List UInt8} {l : List Tok} (h : lexS s = .ok l) : s.length ≤ 400 ∧ Chain s 0 l := by
  unfold lexS at h
  split at h
  · cases h
  · rename_i h4
    exact ⟨by omega, (lex_says s s.length 0 (by omega) (by omega)).1 l (by rw [List.drop_zero]; exact h)⟩
theorem lexS_bad {s : List UInt8} {e : Int} {p : Nat} (h : lexS s = .bad e p) : e ≠ 0 ∧ p ≤ s.length := by
  unfold lexS at h
  split at h
  · injection h with h1 h2
    subst h1 h2
    exact ⟨by decide, Nat.zero_le _⟩
  · have := (lex_says s s.length 0 (by omega) (by omega)).2 e p (by rw [List.drop_zero]; exact h)
    exact ⟨this.2, this.1⟩
theorem Chain.count {s : List UInt8} : ∀ {l : List Tok} {a : Nat}, Chain s a l → a + l.length ≤ s.length
  | [], a, h => h.1
  | t :: l, a, h => by
    have := h.2.2.2.2.2.count
    have h1 := h.2.2.2.2.1.len
    have h2 := h.1
    rw [List.length_cons]; omega
theorem Chain.text {s : List UInt8} : ∀ {l : List Tok} {a : Nat}, Chain s a l → ∀ t ∈ l, t.text.length ≤ s.length
  | [], _, _, _, h => by cases h
  | x :: l, a, hc, t, h => by
    rcases List.mem_cons.1 h with rfl | h
    · have := hc.2.1; omega
    · exact hc.2.2.2.2.2.text t h
theorem glue_take {sep : List UInt8} {l : List Tok} {k : Nat} {t : Tok} (h : l[k]? = some t) : glue sep (l.take (k + 1)) = glue sep (l.take k) ++ (t.text ++ sep) := by
  unfold glue; rw [List.take_add_one, h, List.flatMap_append]; simp
theorem glue_len {sep : List UInt8} : ∀ {l : List Tok}, (∀ t ∈ l, t.text.length ≤ 400) → (glue sep l).length ≤ l.length * (400 + sep.length)
  | [], _ => by simp [glue]
  | t :: l, h => by
    have h1 := h t (by simp)
    have h2 := glue_len (sep := sep) (l := l) (fun x hx => h x (List.mem_cons_of_mem _ hx))
    unfold glue at h2 ⊢
    rw [List.flatMap_cons, List.length_append, List.length_append, List.length_cons, Nat.add_mul]
    omega
end Go.Proofs.YtpbbkpfaphjdoaaGreatDoor
namespace Go.Proofs.YtpbbkpfaphjdoaaGreatDoor
open Go.ChangeShapes Go.WideShapes Go.ChangeAt Go.RowKit

def AllAt (T : List Tok) (E k : Nat) : Prop := UnAt T E k ∧ PrAt T E k ∧ LvAt T E k
theorem pr_all {T : List Tok} {E : Nat} (hW : Words T E) {k : Nat} (IH : LvAt T E k) : PrAt T E (k + 1) := by
  intro i r hk hr wB w rb A c hR hE
  have hi := hR.le
  have ex : ∀ (j : Nat) (r' : PR), i + 1 ≤ j → j ≤ T.length → Rd T E (.lv 0) j r' → ∀ w' : World, RdAt T E w' rb A c j → Env wB w' rb → Calls Tryz.prog 82 #[.pointer (some ⟨rb, 0, none⟩)] w' (RSays T E rb A c w' r') := by
    intro j r' hj hjl hr' w' hR' hE'
    refine expr_any wB w' rb A c hR' hE' (fun w2 h2 h3 => IH 0 j r' (Nat.zero_le _) ?_ hr' wB w2 rb A c h2 h3)
    simp only [work, rank] at hk ⊢
    omega
  cases hr with
  | prPar h a cc =>
    refine pr_par hW h wB w rb A c hR hE (fun w' h1 h2 => ex _ _ (Nat.le_refl _) (isT_lt h) a w' h1 h2) (fun x' j' e => ?_) (fun k e => by cases e)
    cases e
    exact ⟨(rd_on a _ _ rfl (isT_lt h)).2, Or.inl ⟨cc, rfl⟩⟩
  | prParN h a cc =>
    refine pr_par hW h wB w rb A c hR hE (fun w' h1 h2 => ex _ _ (Nat.le_refl _) (isT_lt h) a w' h1 h2) (fun x' j' e => ?_) (fun k e => by cases e)
    cases e
    exact ⟨(rd_on a _ _ rfl (isT_lt h)).2, Or.inr ⟨cc, rfl⟩⟩
  | prParE h a => exact pr_par hW h wB w rb A c hR hE (fun w' h1 h2 => ex _ _ (Nat.le_refl _) (isT_lt h) a w' h1 h2) (fun x' j' e => by cases e) (fun k e => by cases e; rfl)
  | prLen h o a => exact pr_len hW (isT_one h (by decide)) h wB w rb A c hR hE (fun w' h1 h2 => call_go hW h o 1 (by decide) (by decide) (by decide) a wB w' rb A c h1 h2 (fun j r' hj hr' w2 h3 h4 => ex j r' (by omega) h3.le hr' w2 h3 h4))
  | prIf h o a => exact pr_if hW (isT_one h (by decide)) (isT_one h (by decide)) h wB w rb A c hR hE (fun w' h1 h2 => call_go hW h o 3 (by decide) (by decide) (by decide) a wB w' rb A c h1 h2 (fun j r' hj hr' w2 h3 h4 => ex j r' (by omega) h3.le hr' w2 h3 h4))
  | prLenN h o => exact pr_len hW (isT_one h (by decide)) h wB w rb A c hR hE (fun w' h1 _ => call_no hW h o 1 w' rb A c h1)
  | prIfN h o => exact pr_if hW (isT_one h (by decide)) (isT_one h (by decide)) h wB w rb A c hR hE (fun w' h1 _ => call_no hW h o 3 w' rb A c h1)
  | prVal h1 h2 h3 cc => exact pr_val hW h1 h2 h3 cc wB w rb A c hR hE
  | prCol h1 h2 h3 cc d => exact pr_col hW h1 h2 h3 cc d wB w rb A c hR hE
  | prNo h1 h2 h3 cc d => exact pr_no hW h1 h2 h3 cc d wB w rb A c hR hE
theorem un_all {T : List Tok} {E : Nat} (hW : Words T E) {k : Nat} (IH : UnAt T E k) (IHP : PrAt T E k) : UnAt T E (k + 1) := by
  intro i r hk hr wB w rb A c hR hE
  have hi := hR.le
  cases hr with
  | unNeg h a => exact un_neg hW h wB w rb A c hR hE (fun w' h1 h2 => IH _ _ (by have := isT_lt h; simp only [work, rank] at hk ⊢; omega) a wB w' rb A c h1 h2) (fun x j e => by cases e; rfl) (fun k e => by cases e)
  | unNegE h a => exact un_neg hW h wB w rb A c hR hE (fun w' h1 h2 => IH _ _ (by have := isT_lt h; simp only [work, rank] at hk ⊢; omega) a wB w' rb A c h1 h2) (fun x j e => by cases e) (fun k e => by cases e; rfl)
  | unPr h a => exact un_pr hW h wB w rb A c hR hE (fun w' h1 h2 => IHP _ _ (by simp only [work, rank] at hk ⊢; omega) a wB w' rb A c h1 h2)
theorem lv_all {T : List Tok} {E : Nat} (hW : Words T E) {k : Nat} (IH : LvAt T E k) (IHU : UnAt T E k) : LvAt T E (k + 1) := by
  intro n i r hn5 hk hr wB w rb A c hR hE
  have hi := hR.le
  have go : ∀ n, n < 5 → (n = 2 → isT T i wNot = false) → work T (.lv n) i ≤ k + 1 → ∀ r r1 : PR, Rd T E (.lv (n + 1)) i r1 → (∀ x j, r1 = .ok (x, j) → i < j ∧ Rd T E (.lp n x) j r) → (∀ k, r1 = .error k → r = .error k) → Calls Tryz.prog 147 #[.pointer (some ⟨rb, 0, none⟩), .int .i64 n] w (RSays T E rb A c w r) := by
    intro n hn h2 hk r r1 a hok herr
    refine lv_go hW hn h2 wB w rb A c hR hE (fun w' h1 h3 => ?_) (fun i' r' hii hil hr' w' h1 h3 => ?_) hok herr
    · have := IH (n + 1) i r1 (by omega) (by simp only [work, rank] at hk ⊢; omega) a wB w' rb A c h1 h3
      rwa [Int.natCast_add] at this
    · have := IH (n + 1) i' r' (by omega) (by simp only [work, rank] at hk ⊢; omega) hr' wB w' rb A c h1 h3
      rwa [Int.natCast_add] at this
  cases hr with
  | lvNot h a => exact lv_not hW h wB w rb A c hR hE (fun w' h1 h2 => IH 2 _ _ (by decide) (by have := isT_lt h; simp only [work, rank] at hk ⊢; omega) a wB w' rb A c h1 h2) (fun x j e => by cases e; rfl) (fun k e => by cases e)
  | lvNotE h a => exact lv_not hW h wB w rb A c hR hE (fun w' h1 h2 => IH 2 _ _ (by decide) (by have := isT_lt h; simp only [work, rank] at hk ⊢; omega) a wB w' rb A c h1 h2) (fun x j e => by cases e) (fun k e => by cases e; rfl)
  | lvUn a => exact lv_un wB w rb A c hR hE (fun w' h1 h2 => IHU _ _ (by simp only [work, rank] at hk ⊢; omega) a wB w' rb A c h1 h2)
  | lvGo hn h a b =>
    refine go n hn h hk _ _ a (fun x' j' e => ?_) (fun k e => by cases e)
    cases e
    exact ⟨by have := (rd_on a _ _ rfl hi).1; simp only [gain] at this; omega, b⟩
  | lvGoE hn h a => exact go n hn h hk _ _ a (fun x' j' e => by cases e) (fun k e => by cases e; rfl)
theorem rdAll_any {T : List Tok} {E : Nat} (hW : Words T E) : ∀ k, AllAt T E k
  | 0 => ⟨fun i r hk => by simp only [work, rank] at hk; omega, fun i r hk => by simp only [work, rank] at hk; omega, fun n i r _ hk => by simp only [work, rank] at hk; omega⟩
  | k + 1 => by
    obtain ⟨h1, h2, h3⟩ := rdAll_any hW k
    exact ⟨un_all hW h1 h2, pr_all hW h3, lv_all hW h3 h1⟩
/-- Expr: what is read of the words from here on. -/
theorem rdExpr_any {T : List Tok} {E : Nat} (hW : Words T E) {i : Nat} {r : PR} (hr : Rd T E (.lv 0) i r) (wB w : World) (rb : Nat) (A : Option Addr) (c : Nat) (hR : RdAt T E w rb A c i) (hE : Env wB w rb) :
    Calls Tryz.prog 82 #[.pointer (some ⟨rb, 0, none⟩)] w (RSays T E rb A c w r) :=
  expr_any wB w rb A c hR hE (fun w' h1 h2 => (rdAll_any hW (work T (.lv 0) i)).2.2 0 i r (Nat.zero_le _) (Nat.le_refl _) hr wB w' rb A c h1 h2)
end Go.Proofs.YtpbbkpfaphjdoaaGreatDoor
namespace Go.Proofs.YtpbbkpfaphjdoaaGreatDoor

theorem tokP_val {c : UInt8} {r : List UInt8} {n : Nat} {k : Int} (h : tokP (c :: r) = (n, k, 0)) : (k = 2 ∨ k = 3 → (readP ((c :: r).take n)).2 = 0) ∧ (k = 4 → (c :: r).take n ∈ signL) := by
  by_cases hL : isL c = true
  · rw [tokP_L r hL] at h
    injection h with h1 h2
    injection h2 with h2 _
    subst h2
    exact ⟨fun e => by rcases e with e | e <;> exact absurd e (by decide), fun e => absurd e (by decide)⟩
  by_cases hD : isD c = true
  · rw [tokP_D r hD] at h
    split at h
    · injection h with _ h; injection h with _ h; exact absurd h (by decide)
    rename_i hx
    split at h
    · rename_i hy
      injection h with h1 h2
      injection h2 with h2 _
      subst h1 h2
      refine ⟨fun _ => ?_, fun e => absurd e (by decide)⟩
      rw [tw_take]
      have hx2 : (c :: r).takeWhile isD = c :: r.takeWhile isD := by rw [List.takeWhile_cons, if_pos hD]
      have hn := numP_digits (l := (c :: r).takeWhile isD) (by rw [hx2]; simp) (tw_all _ _) (fun e => hx (Or.inl ⟨e.2, by have := e.1; rw [hx2] at this; simpa using this⟩))
      rw [if_pos hy] at hn
      obtain ⟨e1, e2⟩ := (numP_iff _ _).1 hn
      generalize decN ((c :: r).takeWhile isD) = m at e1 e2
      rw [e1, ← itoa_pos, readP_itoa (by unfold fitsN; omega)]
    · injection h with _ h; injection h with _ h; exact absurd h (by decide)
  by_cases hQ : c = 39
  · subst hQ
    rw [tokP_Q] at h
    split at h
    · injection h with _ h; injection h with _ h; exact absurd h (by decide)
    · rename_i m hm
      split at h
      · rename_i hq
        injection h with h1 h2
        injection h2 with h2 _
        subst h1 h2
        refine ⟨fun _ => ?_, fun e => absurd e (by decide)⟩
        rw [List.take_succ_cons, readP_quote]
        exact hq
      · rename_i hq
        injection h with _ h
        injection h with _ h
        exact absurd h hq
  · rw [tokP_S r hL hD hQ] at h
    split at h
    · injection h with _ h; injection h with _ h; exact absurd h (by decide)
    · rename_i hs
      injection h with h1 h2
      injection h2 with h2 _
      subst h1 h2
      refine ⟨fun e => by rcases e with e | e <;> exact absurd e (by decide), fun _ => ?_⟩
      unfold sgnN at hs ⊢
      cases hf : signL.find? (·.isPrefixOf (c :: r)) with
      | none => rw [hf] at hs; exact (hs rfl).elim
      | some x =>
        have hm := List.mem_of_find?_eq_some hf
        have hp := List.find?_some hf
        obtain ⟨u, hu⟩ := List.isPrefixOf_iff_prefix.1 hp
        simp only
        rw [← hu, List.take_left]
        exact hm
theorem Chain.places {s : List UInt8} : ∀ {l : List Tok} {a : Nat}, Chain s a l → ∀ t ∈ l, t.at_ ≤ s.length
  | [], _, _, _, h => by cases h
  | x :: l, a, hc, t, h => by
    rcases List.mem_cons.1 h with rfl | h
    · have := hc.2.1; omega
    · exact hc.2.2.2.2.2.places t h
/-- What the words of a text are. -/
theorem words_of {s : List UInt8} {T : List Tok} (h : lexS s = .ok T) : Words T s.length := by
  obtain ⟨h4, hc⟩ := lexS_ok h
  have ok : ∀ t ∈ T, (t.kind = 2 ∨ t.kind = 3 → (readP t.text).2 = 0) ∧ (t.kind = 4 → t.text ∈ signL) := by
    intro t ht
    obtain ⟨c, r, n, h1, h2, -⟩ := hc.all t ht
    rw [h2]
    exact tokP_val h1
  exact ⟨by have := hc.count; omega, h4, hc.places, fun t ht => by have := hc.text t ht; omega, fun t ht => (ok t ht).1, fun t ht => (ok t ht).2⟩
end Go.Proofs.YtpbbkpfaphjdoaaGreatDoor
namespace Go.Proofs.YtpbbkpfaphjdoaaGreatDoor
open Go.ChangeShapes Go.WideShapes Go.ChangeAt Go.RowKit

def Own2F (w : World) (b : Nat) (x y : Int) : Prop := w.heap[b]? = some (.cells #[.int .i64 x, .int .i64 y] 34 (0, 0))
theorem Own2F.cells {w : World} {b : Nat} {x y : Int} (h : Own2F w b x y) : w.cell? ⟨b, 0, none⟩ = some (.int .i64 x) ∧ w.cell? ⟨b, 1, none⟩ = some (.int .i64 y) := ⟨by rw [cell_of_row _ _ _ _ _ _ h]; rfl, by rw [cell_of_row _ _ _ _ _ _ h]; rfl⟩
theorem Own2F.frees {w : World} {b : Nat} {x y : Int} (h : Own2F w b x y) : w.frozen? ⟨b, 0, none⟩ = false ∧ w.frozen? ⟨b, 1, none⟩ = false := ⟨frozen_of_row _ _ _ _ _ h, frozen_of_row _ _ _ _ _ h⟩
theorem Own2F.lt {w : World} {b : Nat} {x y : Int} (h : Own2F w b x y) : b < w.heap.size := (Array.getElem?_eq_some_iff.1 h).1
theorem Own2F.keep {w w' : World} {b : Nat} {x y : Int} (h : Own2F w b x y) (hb : Below w.heap.size w w') : Own2F w' b x y := (hb.block b h.lt).trans h
theorem Own2F.only {S : Nat → Prop} {w w' : World} {b : Nat} {x y : Int} (h : Own2F w b x y) (ho : Only S w w') (hs : ¬ S b) : Own2F w' b x y := (ho.block b h.lt hs).trans h
theorem own2f_new (w : World) (x y : Int) : Own2F (w.alloc (.cells #[.int .i64 x, .int .i64 y] 34)) w.heap.size x y := heap_alloc_new w _
theorem own2f_set {w : World} {b : Nat} {x y : Int} (h : Own2F w b x y) (x' y' : Int) : Own2F ((w.setCell ⟨b, 0, none⟩ (.int .i64 x')).setCell ⟨b, 1, none⟩ (.int .i64 y')) b x' y' := by
  unfold Own2F
  rw [heap_setCell_same _ _ _ _ _ _ (heap_setCell_same _ _ _ _ _ _ h)]
  rfl
theorem own2f_setOnly {w : World} {b : Nat} (x' y' : Int) : Only (fun k => k = b) w ((w.setCell ⟨b, 0, none⟩ (.int .i64 x')).setCell ⟨b, 1, none⟩ (.int .i64 y')) := ((Only.refl (fun k => k = b) w).setCell (p := ⟨b, 0, none⟩) rfl _).setCell (p := ⟨b, 1, none⟩) rfl _
set_option maxHeartbeats 1000000 in
set_option maxRecDepth 100000 in
theorem catch_idle (fb : Nat) (w : World) : CallsD Tryz.prog 102 #[.pointer (some ⟨fb, 0, none⟩)] .returning w fun e u' w' => e = .returned (.tuple #[]) ∧ u' = .returning ∧ w' = w := by
  refine callsD_of_wpS Tryz.func102 rfl fun c₀ cs hu => ?_
  apply wpS_seq
  apply wpS_region
  simp [wpOpsS, go_sem, recoverD, hu, Tryz.ntmps102, Exit.thenS]
  refine wpS_of_wp ?_
  rw [show (#[Value.pointer (some ⟨fb, 0, none⟩)] ++ ((Array.replicate 17 undef).setIfInBounds 3 Value.nilIface).setIfInBounds 0 Value.nilIface : Array Value) = #[.pointer (some ⟨fb, 0, none⟩), Value.nilIface, undef, undef, Value.nilIface, undef, undef, undef, undef, undef, undef, undef, undef, undef, undef, undef, undef, undef] from rfl]
  go_wp2_with fail
  exact ⟨rfl, .returning, by rw [← hu], _, results_none rfl _ _ _, rfl, rfl, rfl⟩
set_option maxHeartbeats 1000000 in
set_option maxRecDepth 100000 in
theorem catch_wrong (fb k : Nat) (x y : Int) (w : World) (ho : Own2F w fb x y) :
    CallsD Tryz.prog 102 #[.pointer (some ⟨fb, 0, none⟩)] (.panicking [{ v := .iface 154 (.agg #[.int .i64 k]), recovered := false }]) w fun e u' w' =>
      e = .returned (.tuple #[]) ∧ u' = .panicking [{ v := .iface 154 (.agg #[.int .i64 k]), recovered := true }] ∧ Own2F w' fb 2 k ∧ Only (fun b => b = fb) w w' := by
  have h20 : Tryz.prog.underlying 20 = some (.interface (Tryz.prog.methodsAt 20)) := by kernel_rfl
  have hn : ∀ w : World, (binOp BinOp.neq 20 (.iface 154 (.agg #[.int .i64 k])) .nilIface).run Tryz.prog w = .ok (.bool true) w := fun w => run_neq_held_nil w _ _ _ h20
  have hta : ∀ w : World, (Instr.typeAssert (.iface 154 (.agg #[.int .i64 k])) 20 154 true).run Tryz.prog w = .ok (.tuple #[.agg #[.int .i64 k], .bool true]) w := fun _ => by kernel_rfl
  obtain ⟨w1, hw1⟩ : ∃ w1, w.alloc (.cells #[.int .i64 k] 154) = w1 := ⟨_, rfl⟩
  have hb1 : Below w.heap.size w w1 := by rw [← hw1]; exact belowNew' _ _
  have ho1 : w1.heap[w.heap.size]? = some (.cells #[.int .i64 k] 154 (0, 0)) := by rw [← hw1]; exact heap_alloc_new w _
  have hc1 : w1.cell? ⟨w.heap.size, 0, none⟩ = some (.int .i64 k) := by rw [cell_of_row _ _ _ _ _ _ ho1]; rfl
  have hl1 : w.heap.size < w1.heap.size := (Array.getElem?_eq_some_iff.1 ho1).1
  have HO := Lib.hid (ho.keep hb1)
  have HB := Lib.hid hb1
  have HW1 := Lib.hid hw1
  obtain ⟨f0, f1⟩ := HO.out.frees
  obtain ⟨c0, c1⟩ := HO.out.cells
  have hlf := HO.out.lt
  clear ho hb1 ho1 hw1
  refine callsD_of_wpS Tryz.func102 rfl fun c₀ cs hu => ?_
  apply wpS_seq
  apply wpS_region
  simp [wpOpsS, go_sem, recoverD, hu, Tryz.ntmps102, Exit.thenS]
  clear hu
  refine wpS_of_wp ?_
  rw [show (#[Value.pointer (some ⟨fb, 0, none⟩)] ++ ((Array.replicate 17 undef).setIfInBounds 3 (Value.iface 154 (.agg #[.int .i64 k]))).setIfInBounds 0 (Value.iface 154 (.agg #[.int .i64 k])) : Array Value) = #[.pointer (some ⟨fb, 0, none⟩), (Value.iface 154 (.agg #[.int .i64 k])), undef, undef, (Value.iface 154 (.agg #[.int .i64 k])), undef, undef, undef, undef, undef, undef, undef, undef, undef, undef, undef, undef, undef] from rfl]
  go_wp2_with (first | rw [HW1.out])
  exact ⟨rfl, _, rfl, _, results_none rfl _ _ _, rfl, rfl, own2f_set HO.out _ _, (Only.of_below HB.out).trans (own2f_setOnly _ _)⟩
end Go.Proofs.YtpbbkpfaphjdoaaGreatDoor
namespace Go.Proofs.YtpbbkpfaphjdoaaGreatDoor
open Go.ChangeShapes Go.WideShapes Go.ChangeAt Go.RowKit

/-- Blocks that were not there ahead may turn, and those that may. -/
theorem Only.then_or {S S2 : Nat → Prop} {a b d : World} (h : Only S a b) (h2 : Only S2 b d) (hn : ∀ k, S2 k → S k ∨ a.heap.size ≤ k) : Only S a d :=
  ⟨h2.os.trans h.os, h2.tape.trans h.tape, h2.output.trans h.output, Nat.le_trans h.size h2.size, fun k hk hs => (h2.block k (Nat.lt_of_lt_of_le hk h.size) (fun e => by rcases hn k e with h | h; exact hs h; omega)).trans (h.block k hk hs)⟩
/-- Words do not lie where a fault lies. -/
theorem toks_off {w : World} {A : Option Addr} {n c b : Nat} {T : List Tok} {x y : Int} (h : SeesToks w A n c T) (hb : Own2F w b x y) (h0 : 0 < n) (ad : Addr) (e : A = some ad) : ad.block ≠ b := by
  intro eb
  obtain ⟨g, o, v, e2, hg, hv, d0, d1, d2⟩ := h.at_ (k := 0) h0
  rw [e] at e2
  injection e2 with e2
  subst e2
  have eb : g = b := eb
  subst eb
  rw [cell_of_row _ _ _ _ _ _ hb] at d1
  have : ∀ m : Nat, (#[Value.int .i64 x, .int .i64 y] : Array Value)[m + 1]? ≠ some (.string ⟨v.text.toArray⟩) := by
    intro m
    cases m with
    | zero => simp
    | succ m => simp
  exact this (o + 0 * 3) d1
def faultV (h p : Int) : Value := .agg #[.int .i64 h, .int .i64 p]
/-- What comes of a text that is read. -/
def ReadSays (s : ByteArray) (eb : Nat) (P : List Tok → Nat → World → Prop) (N : List Tok → Nat → Prop) (w : World) (e : Ending) (w' : World) : Prop :=
  Only (fun k => k = eb) w w' ∧ ((∃ h p, lexS s.data.toList = .bad h p ∧ e = .returned (faultV h p)) ∨
    ∃ T, lexS s.data.toList = .ok T ∧ ((∃ k, N T k ∧ e = .returned (faultV 2 k)) ∨ ∃ j, P T j w' ∧ j ≤ T.length ∧ ((j < T.length ∧ e = .returned (faultV 2 (atT T s.size j))) ∨ (T.length ≤ j ∧ e = .returned (faultV 0 0)))))
set_option maxHeartbeats 4000000 in
set_option maxRecDepth 100000 in
theorem read_any (s : ByteArray) (hs : s.size ≤ maxLen) (f : Nat) (hcf : ∀ (args : Array Value) (w : World), (callFunc f args).run Tryz.prog w = .ok (.enter f args) w) (eb : Nat) (P : List Tok → Nat → World → Prop) (N : List Tok → Nat → Prop) (wB w : World) (hlev : LevelsT wB) (hwords : WordsT wB) (htext : TextT wB) (hnum : NumT wB) (hsigns : SignsT wB) (hB : Below wB.heap.size wB w) (heb : eb < w.heap.size)
    (hP : ∀ T j w1 w2, P T j w1 → Only (fun b => b = w.heap.size) w1 w2 → P T j w2)
    (HF : ∀ T, lexS s.data.toList = .ok T → ∀ (w' : World) (rb : Nat) (A : Option Addr) (c : Nat), w.heap.size < rb → RdAt T s.size w' rb A c 0 → Env wB w' rb → Only (fun _ => False) w w' →
      Calls Tryz.prog f #[.pointer (some ⟨rb, 0, none⟩), .pointer (some ⟨eb, 0, none⟩)] w' fun e w'' => (∃ j, e = .returned (.tuple #[]) ∧ RdAt T s.size w'' rb A c j ∧ Only (fun k => k = rb ∨ k = eb) w' w'' ∧ P T j w'') ∨ ∃ k, N T k ∧ e = wrongAt k ∧ Only (fun k => k = rb ∨ k = eb) w' w'') :
    Calls Tryz.prog 39 #[.string s, .func (.func f) #[] #[.pointer (some ⟨eb, 0, none⟩)]] w (ReadSays s eb P N w) := by
  have hmf : ∀ (fn : Fn) (first cap : Array Value) (w : World), (Instr.makeFunc fn first cap).run Tryz.prog w = .ok (.func fn first cap) w := fun _ _ _ _ => rfl
  obtain ⟨w0, hw0⟩ : ∃ w0, w.alloc (.cells #[.int .i64 0, .int .i64 0] 34) = w0 := ⟨_, rfl⟩
  have hb0 : Below w.heap.size w w0 := by rw [← hw0]; exact belowNew' _ _
  have ho0 : Own2F w0 w.heap.size 0 0 := by rw [← hw0]; exact own2f_new w 0 0
  have hB0 := below_step hB hb0
  have T1 := Lib.hid (tokens_any s hs w0 (htext.keep hB0) (hnum.keep hB0) (hsigns.keep hB0))
  have HW0 := Lib.hid hw0
  have HB0 := Lib.hid hb0
  have HO0 := Lib.hid ho0
  have HBB := Lib.hid hB0
  have HTS := Lib.hid (show LevelsT wB ∧ WordsT wB ∧ TextT wB ∧ NumT wB from ⟨hlev, hwords, htext, hnum⟩)
  have HEB := Lib.hid heb
  have HFB := Lib.hid (show wB.heap.size ≤ w.heap.size from hB.size)
  have HPP := Lib.hid hP
  have HFF := Lib.hid HF
  clear hw0 hb0 ho0 hB0 hB hlev hwords htext hnum hsigns hP HF heb hs
  cases hlx : lexS s.data.toList with
  | bad hh pp =>
    have HLX := Lib.hid hlx
    rw [hlx] at T1
    unfold LexSays LexR.toks LexR.how LexR.pos at T1
    clear hlx
    go_enter_defers Tryz.func39, Tryz.ntmps39
    go_wp2_with (first | rw [HW0.out])
    refine (T1.out).mono ?_
    rintro e' w1 ⟨A, n, c, rfl, hst, hb1⟩
    have HO1 := Lib.hid (HO0.out.keep hb1)
    have HB1 := Lib.hid (below_step HB0.out hb1)
    obtain ⟨w2, hw2⟩ : ∃ w2, (w1.setCell ⟨w.heap.size, 0, none⟩ (.int .i64 hh)).setCell ⟨w.heap.size, 1, none⟩ (.int .i64 pp) = w2 := ⟨_, rfl⟩
    have ho2 : Own2F w2 w.heap.size hh pp := by rw [← hw2]; exact own2f_set HO1.out _ _
    have hn2 : Only (fun k => k = w.heap.size) w1 w2 := by rw [← hw2]; exact own2f_setOnly _ _
    obtain ⟨w3, hw3⟩ : ∃ w3, (w2.setCell ⟨w.heap.size, 0, none⟩ (.int .i64 hh)).setCell ⟨w.heap.size, 1, none⟩ (.int .i64 pp) = w3 := ⟨_, rfl⟩
    have ho3 : Own2F w3 w.heap.size hh pp := by rw [← hw3]; exact own2f_set ho2 _ _
    have hn3 : Only (fun k => k = w.heap.size) w2 w3 := by rw [← hw3]; exact own2f_setOnly _ _
    obtain ⟨f0, f1⟩ := HO1.out.frees
    obtain ⟨z0, z1⟩ := HO1.out.cells
    have hl1 := HO1.out.lt
    obtain ⟨q0, q1⟩ := ho2.cells
    obtain ⟨g0, g1⟩ := ho2.frees
    have hl2 := ho2.lt
    have hne : (hh != 0) = true := by simpa using (lexS_bad HLX.out).1
    have HN3 := Lib.hid (((Only.of_below (S := fun k => k = eb) HB1.out).then_new hn2 (Nat.le_refl _)).then_new hn3 (Nat.le_refl _))
    have HO3 := Lib.hid ho3
    have HW2 := Lib.hid hw2
    have HW3 := Lib.hid hw3
    clear hst hb1 hw2 ho2 hn2 hw3 ho3 hn3 T1
    go_wp2_with (first | rw [HW2.out] | rw [HW3.out])
    obtain ⟨o0, o1⟩ := HO3.out.cells
    refine ⟨faultV hh pp, ?_, HN3.out, Or.inl ⟨hh, pp, HLX.out, rfl⟩⟩
    simp [results, Tryz.results39, go_sem, o0, o1, faultV]
  | ok T =>
    have HLX := Lib.hid hlx
    rw [hlx] at T1
    unfold LexSays LexR.toks LexR.how LexR.pos at T1
    clear hlx
    go_enter_defers Tryz.func39, Tryz.ntmps39
    go_wp2_with (first | rw [HW0.out])
    refine (T1.out).mono ?_
    rintro e' w1 ⟨A, n, c, rfl, hst, hb1⟩
    obtain rfl := hst.1
    have HO1 := Lib.hid (HO0.out.keep hb1)
    have HB1 := Lib.hid (below_step HB0.out hb1)
    obtain ⟨w2, hw2⟩ : ∃ w2, (w1.setCell ⟨w.heap.size, 0, none⟩ (.int .i64 0)).setCell ⟨w.heap.size, 1, none⟩ (.int .i64 0) = w2 := ⟨_, rfl⟩
    have ho2 : Own2F w2 w.heap.size 0 0 := by rw [← hw2]; exact own2f_set HO1.out _ _
    have hn2 : Only (fun k => k = w.heap.size) w1 w2 := by rw [← hw2]; exact own2f_setOnly _ _
    have hst2 : SeesToks w2 A T.length c T := ⟨hst.1, hn2.sees_far hst.2 (fun h0 ad e hr => toks_off hst HO1.out h0 ad e hr)⟩
    have T2 := Lib.hid (newReader_any T A c s w2 hst2)
    have HBW2 := Lib.hid (show Below wB.heap.size wB w2 from (below_step HBB.out hb1).trans (hn2.below (below_step HBB.out hb1).size (fun _ e => e ▸ HFB.out)))
    have HF2 := Lib.hid ((Only.of_below (S := fun _ => False) HB1.out).then_new hn2 (Nat.le_refl _))
    have HN2 := Lib.hid ((Only.of_below (S := fun k => k = eb) HB1.out).then_new hn2 (Nat.le_refl _))
    have HSZ := Lib.hid (show w.heap.size < w2.heap.size from ho2.lt)
    have HO2 := Lib.hid ho2
    obtain ⟨f0, f1⟩ := HO1.out.frees
    obtain ⟨z0, z1⟩ := HO1.out.cells
    have hl1 := HO1.out.lt
    obtain ⟨q0, q1⟩ := ho2.cells
    obtain ⟨g0, g1⟩ := ho2.frees
    have hl2 := ho2.lt
    have hne : ((0 : Int) != 0) = false := rfl
    have HW2 := Lib.hid hw2
    have HLN := Lib.hid (show T.length ≤ T.length from Nat.le_refl _)
    generalize hL : T.length = n at *
    clear hst hb1 hw2 ho2 hn2 T1 hst2
    go_wp2_with (first | rw [HW2.out])
    refine (T2.out).mono ?_
    rintro e' w3 ⟨rb, rfl, hrb, hr3, hb3⟩
    have HO3 := Lib.hid (HO2.out.keep hb3)
    have HR3 := Lib.hid (show w.heap.size < rb ∧ eb < rb from by have := HSZ.out; have := HEB.out; exact ⟨by omega, by omega⟩)
    have HE3 := Lib.hid (show Env wB w3 rb from ⟨HTS.out.1, HTS.out.2.1, HTS.out.2.2.1, HTS.out.2.2.2, below_step HBW2.out hb3, by have := HBW2.out.size; omega⟩)
    have T3 := Lib.hid (HFF.out T HLX.out w3 rb A c HR3.out.1 hr3 HE3.out (HF2.out.trans (.of_below hb3)))
    have HN3 := Lib.hid (HN2.out.trans (.of_below hb3))
    clear hr3 hb3 T2 f0 f1 z0 z1 hl1 q0 q1 g0 g1 hl2 HW2
    go_wp2_with fail
    refine (T3.out).mono ?_
    rintro e' w4 (⟨j, rfl, hr4, hn4, hp4⟩ | ⟨k, hk, rfl, hn4⟩)
    · have HO4 := Lib.hid (HO3.out.only hn4 (fun e => by have := HR3.out; have := HEB.out; rcases e with e | e <;> omega))
      have HN4 := Lib.hid (HN3.out.then_or hn4 (fun q e => by have := HR3.out; rcases e with e | e; exact Or.inr (by omega); exact Or.inl e))
      have HP4 := Lib.hid hp4
      have HJ := Lib.hid hr4.le
      have T4 := Lib.hid (done_any hr4 (words_of HLX.out))
      clear hr4 hn4 hp4 T3
      go_wp2_with fail
      refine (T4.out).mono ?_
      rintro e' w5 (⟨hj, rfl, hb5⟩ | ⟨hj, rfl, hb5⟩)
      · have HO5 := Lib.hid (HO4.out.keep hb5)
        have HP5 := Lib.hid (HPP.out T j w4 w5 HP4.out (.of_below hb5))
        have HN5 := Lib.hid (HN4.out.trans (.of_below hb5))
        obtain ⟨w6, hw6⟩ : ∃ w6, (w5.setCell ⟨w.heap.size, 0, none⟩ (.int .i64 0)).setCell ⟨w.heap.size, 1, none⟩ (.int .i64 0) = w6 := ⟨_, rfl⟩
        have ho6 : Own2F w6 w.heap.size 0 0 := by rw [← hw6]; exact own2f_set HO5.out _ _
        have hn6 : Only (fun k => k = w.heap.size) w5 w6 := by rw [← hw6]; exact own2f_setOnly _ _
        obtain ⟨f0, f1⟩ := HO5.out.frees
        obtain ⟨z0, z1⟩ := HO5.out.cells
        have hl5 := HO5.out.lt
        have HO6 := Lib.hid ho6
        have HP6 := Lib.hid (HPP.out T j w5 w6 HP5.out hn6)
        have HN6 := Lib.hid (HN5.out.then_new hn6 (Nat.le_refl _))
        have HJJ := Lib.hid hj
        have HW6 := Lib.hid hw6
        clear hw6 ho6 hn6 hj hb5 T4
        go_wp2_with (first | rw [HW6.out])
        refine leaves_cons (f := 102) (args := #[.pointer (some ⟨w.heap.size, 0, none⟩)]) (by simp) (by simp [go_sem]) ?_
        refine (catch_idle w.heap.size _).mono ?_
        rintro e u' wz ⟨rfl, rfl, rfl⟩
        obtain ⟨o0, o1⟩ := HO6.out.cells
        refine ⟨faultV 0 0, ?_, HN6.out, Or.inr ⟨T, HLX.out, Or.inr ⟨j, HP6.out, HJ.out, Or.inr ⟨HJJ.out, rfl⟩⟩⟩⟩
        simp [results, Tryz.results39, go_sem, o0, o1, faultV]
      · have HO5 := Lib.hid (HO4.out.keep hb5)
        have HP5 := Lib.hid (HPP.out T j w4 w5 HP4.out (.of_below hb5))
        have HN5 := Lib.hid (HN4.out.trans (.of_below hb5))
        have HJJ := Lib.hid hj
        have HPZ := Lib.hid (show ∀ wz, Only (fun b => b = w.heap.size) w5 wz → P T j wz from fun wz hz => HPP.out T j w5 wz HP5.out hz)
        clear hj hb5 T4
        unfold wrongAt
        go_wp2_with fail
        refine leaves_cons (f := 102) (args := #[.pointer (some ⟨w.heap.size, 0, none⟩)]) (by simp) (by simp [go_sem]) ?_
        refine (catch_wrong w.heap.size (atT T s.size j) 0 0 _ HO5.out).mono ?_
        rintro e u' wz ⟨rfl, rfl, hoz, hnz⟩
        have HOZ := Lib.hid hoz
        have HNX := Lib.hid hnz
        have HNZ := Lib.hid (HN5.out.then_new hnz (Nat.le_refl _))
        clear hoz hnz
        obtain ⟨o0, o1⟩ := HOZ.out.cells
        refine ⟨faultV 2 ((atT T s.size j : Nat) : Int), ?_, HNZ.out, Or.inr ⟨T, HLX.out, Or.inr ⟨j, HPZ.out _ HNX.out, HJ.out, Or.inl ⟨HJJ.out, rfl⟩⟩⟩⟩
        simp [results, Tryz.results39, go_sem, o0, o1, faultV]
    · have HO4 := Lib.hid (HO3.out.only hn4 (fun e => by have := HR3.out; have := HEB.out; rcases e with e | e <;> omega))
      have HN4 := Lib.hid (HN3.out.then_or hn4 (fun q e => by have := HR3.out; rcases e with e | e; exact Or.inr (by omega); exact Or.inl e))
      have HK := Lib.hid hk
      clear hn4 hk T3
      unfold wrongAt
      go_wp2_with fail
      refine leaves_cons (f := 102) (args := #[.pointer (some ⟨w.heap.size, 0, none⟩)]) (by simp) (by simp [go_sem]) ?_
      refine (catch_wrong w.heap.size (k) 0 0 _ HO4.out).mono ?_
      rintro e u' wz ⟨rfl, rfl, hoz, hnz⟩
      have HOZ := Lib.hid hoz
      have HNZ := Lib.hid (HN4.out.then_new hnz (Nat.le_refl _))
      clear hoz hnz
      obtain ⟨o0, o1⟩ := HOZ.out.cells
      refine ⟨faultV 2 ((k : Nat) : Int), ?_, HNZ.out, Or.inr ⟨T, HLX.out, Or.inl ⟨k, HK.out, rfl⟩⟩⟩
      simp [results, Tryz.results39, go_sem, o0, o1, faultV]
end Go.Proofs.YtpbbkpfaphjdoaaGreatDoor
namespace Go.Proofs.YtpbbkpfaphjdoaaGreatDoor
open Go.ChangeShapes Go.WideShapes Go.ChangeAt Go.RowKit

mutual
theorem strip_size : ∀ e : Ex, exSize (strip e) = exSize e
  | .mk op name v A c args pos => by rw [strip, exSize, exSize, strip_sizes args 1]
theorem strip_sizes : ∀ (l : List Ex) (n : Int), exSizes n (strips l) = exSizes n l
  | [], n => by rw [strips]
  | a :: l, n => by rw [strips, exSizes, exSizes, strip_size a, strip_sizes l]
end
theorem strip_full (e : Ex) : fullB (strip e) = fullB e := by unfold fullB; rw [strip_size, strip_below]
/-- Words do not lie where an expression lies. -/
theorem toks_off7 {w : World} {A : Option Addr} {n c b : Nat} {T : List Tok} {e : Ex} (h : SeesToks w A n c T) (hb : Own7 w b e) (h0 : 0 < n) (ad : Addr) (he : A = some ad) : ad.block ≠ b := by
  intro eb
  obtain ⟨g, o, v, e2, hg, hv, d0, d1, d2⟩ := h.at_ (k := 0) h0
  rw [he] at e2
  injection e2 with e2
  subst e2
  have eb : g = b := eb
  subst eb
  rw [cell_of_row _ _ _ _ _ _ hb] at d0 d1 d2
  rcases o with _ | _ | _ | _ | _ | _ | _ | o
  · simp at d0
  · simp at d0
  · simp at d1
  · simp at d2
  · simp at d0
  · simp at d0
  · simp at d1
  · simp at d0
/-- What a text comes to: the fault and where, or an expression. -/
def ParseIs (l : List UInt8) (R : Except (Int × Int) Ex) : Prop :=
  (∃ h p, lexS l = .bad h p ∧ R = .error (h, (p : Int))) ∨
  ∃ T r, lexS l = .ok T ∧ Rd T l.length (.lv 0) 0 r ∧ ((∃ k : Nat, r = .error k ∧ R = .error (2, (k : Int))) ∨
    ∃ x j, r = .ok (x, j) ∧ ((j < T.length ∧ R = .error (2, (atT T l.length j : Int))) ∨ (T.length ≤ j ∧ ((fullB x = true ∧ R = .error (4, 0)) ∨ (fullB x = false ∧ R = .ok x)))))
/-- Any text comes to something. -/
theorem parse_all (l : List UInt8) : ∃ R, ParseIs l R := by
  cases h : lexS l with
  | bad e p => exact ⟨_, Or.inl ⟨e, p, h, rfl⟩⟩
  | ok T =>
    obtain ⟨r, hr⟩ := rd_all (T := T) l.length _ (.lv 0) 0 (show (0 : Nat) ≤ 5 by decide) (Nat.zero_le _) (Nat.le_refl _)
    match r, hr with
    | .error k, hr => exact ⟨_, Or.inr ⟨T, _, h, hr, Or.inl ⟨k, rfl, rfl⟩⟩⟩
    | .ok (x, j), hr =>
      by_cases hj : j < T.length
      · exact ⟨_, Or.inr ⟨T, _, h, hr, Or.inr ⟨x, j, rfl, Or.inl ⟨hj, rfl⟩⟩⟩⟩
      · cases hf : fullB x with
        | true => exact ⟨_, Or.inr ⟨T, _, h, hr, Or.inr ⟨x, j, rfl, Or.inr ⟨by omega, Or.inl ⟨hf, rfl⟩⟩⟩⟩⟩
        | false => exact ⟨_, Or.inr ⟨T, _, h, hr, Or.inr ⟨x, j, rfl, Or.inr ⟨by omega, Or.inr ⟨hf, rfl⟩⟩⟩⟩⟩
def PSays (R : Except (Int × Int) Ex) (w : World) (e : Ending) (w' : World) : Prop :=
  Below w.heap.size w w' ∧ match R with
    | .error (h, p) => e = .returned (.tuple #[exV zeroE, faultV h p])
    | .ok x => ∃ y, e = .returned (.tuple #[exV y, faultV 0 0]) ∧ SeesS (fun b => w.heap.size ≤ b) w' y ∧ strip y = x
/-- What the reading closure leaves. -/
def PP (s : ByteArray) (r : PR) (eb : Nat) (w : World) (T : List Tok) (j : Nat) (w' : World) : Prop :=
  lexS s.data.toList = .ok T ∧ ∃ x y, r = .ok (x, j) ∧ strip y = x ∧ Own7 w' eb y ∧ SeesS (fun b => w.heap.size < b) w' y
def P1Says (s : ByteArray) (r : PR) (eb : Nat) (w : World) (T : List Tok) (rb : Nat) (A : Option Addr) (c : Nat) (w' : World) (e : Ending) (w'' : World) : Prop :=
  (∃ j, e = .returned (.tuple #[]) ∧ RdAt T s.size w'' rb A c j ∧ Only (fun k => k = rb ∨ k = eb) w' w'' ∧ PP s r eb w T j w'') ∨ ∃ k, r = .error k ∧ e = wrongAt k ∧ Only (fun k => k = rb ∨ k = eb) w' w''
set_option maxHeartbeats 1000000 in
set_option maxRecDepth 100000 in
theorem parse1_any {s : ByteArray} {T : List Tok} (hlx : lexS s.data.toList = .ok T) {r : PR} (hr : Rd T s.size (.lv 0) 0 r) (eb : Nat) (wB w w' : World) (rb : Nat) (A : Option Addr) (c : Nat) (hR : RdAt T s.size w' rb A c 0) (hE : Env wB w' rb) (hz : Own7 w' eb zeroE) (hrb : eb < rb) (hwr : w.heap.size < w'.heap.size) (heb : eb < w.heap.size) :
    Calls Tryz.prog 81 #[.pointer (some ⟨rb, 0, none⟩), .pointer (some ⟨eb, 0, none⟩)] w' (P1Says s r eb w T rb A c w') := by
  have T1 := Lib.hid (rdExpr_any (words_of hlx) hr wB w' rb A c hR hE)
  have HLX := Lib.hid hlx
  have HZ := Lib.hid hz
  have HS := Lib.hid (show eb < rb ∧ w.heap.size < w'.heap.size ∧ eb < w.heap.size ∧ rb < w'.heap.size from ⟨hrb, hwr, heb, hR.lt⟩)
  have HTA := Lib.hid (show 0 < T.length → ∀ ad, A = some ad → ad.block ≠ eb from fun h0 ad e => toks_off7 hR.toks hz h0 ad e)
  clear hlx hr hR hE hz hrb hwr heb
  go_enter Tryz.func81, Tryz.ntmps81
  go_wp2_with fail
  refine (T1.out).mono ?_
  cases r with
  | error k =>
    rintro e w1 ⟨rfl, hn1⟩
    have HF := Lib.hid hn1
    clear hn1 T1
    unfold wrongAt
    go_wp2_with fail
    exact ⟨rfl, Or.inr ⟨k, rfl, rfl, HF.out.mono (fun b hb => Or.inl hb)⟩⟩
  | ok xj =>
    obtain ⟨x, j⟩ := xj
    rintro e w1 ⟨y, rfl, hsy, hst, hr1, hn1⟩
    have HSY := Lib.hid hsy
    have HST := Lib.hid hst
    have HR1 := Lib.hid hr1
    have HN1 := Lib.hid hn1
    have HZ1 := Lib.hid (own7_only HZ.out hn1 (fun e => by have := HS.out; omega))
    clear hsy hst hr1 hn1 T1
    go_wp2_with (first
      | (refine wpList_put7 rfl (.tmp 1) (.tmp 4) rfl (X := y) HZ1.out rfl (by rfl) ?_; intro wl hzl hol; have HZL := Lib.hid hzl; have HOL := Lib.hid hol; clear hzl hol))
    go_end0
    refine Or.inl ⟨j, rfl, HR1.out.other HOL.out (fun e => by have := HS.out; omega) HTA.out, (HN1.out.mono (fun b hb => Or.inl hb)).trans (HOL.out.mono (fun b hb => Or.inr hb)), HLX.out, x, y, rfl, HST.out, HZL.out, ?_⟩
    exact (HSY.out.keep (alike_only2 HOL.out (fun b hb e => by have := HS.out; have hb' : w'.heap.size ≤ b := hb; have e' : b = eb := e; omega))).mono (fun b hb => by have := HS.out; have hb' : w'.heap.size ≤ b := hb; omega)
theorem wpOp_store2 {ops : Array Oper} {Q : Exit → Act → World → Prop} {j : Nat} {K : Act → World → Prop} {a : Act} {w : World} {o : Oper} (hj : ops[j]? = some o) (hg : o.guard = none) (x y : Operand) (ho : o.op = .store 34 x y) (hd : o.dst = none) {b : Nat} {u v h p : Int}
    (hown : Own2F w b u v) (hx : a.eval x = .pointer (some ⟨b, 0, none⟩)) (hy : a.eval y = .agg #[.int .i64 h, .int .i64 p])
    (hk : ∀ w', Own2F w' b h p → Only (fun k => k = b) w w' → K a w') : wpOp Tryz.prog ops Q j K a w := by
  have hw : Region.wanted o (yielded ops a.tmps) = true := by simp [Region.wanted, hg]
  unfold wpOp
  simp only [hj, hw, if_true]
  left
  have hb := below_setRow (B := b) (Below.refl b w) (Nat.le_refl _) (#[Value.int .i64 h, .int .i64 p])
  have hO : Only (fun k => k = b) w (w.setRow b #[Value.int .i64 h, .int .i64 p]) := ⟨hb.os, hb.tape, hb.output, hb.size, fun k _ hk => setRow_other w b k _ hk⟩
  refine wp_store_row _ x y ho b _ hx hy 34 _ hown (by kernel_rfl) rfl (by rw [← Array.all_toList]; rfl) ?_
  rw [hd]
  exact hk _ (setRow_heap w b _ _ _ _ hown) hO
theorem built_zero : Tryz.prog.built 26 [] = some #[.string ⟨#[]⟩, .string ⟨#[]⟩, .int .i64 0, .int .i64 0, .string ⟨#[]⟩, .slice none 0 0, .int .i64 0] := by kernel_rfl
theorem run_zero (w : World) : (Instr.build 26 #[]).run Tryz.prog w = .ok (.agg #[.string ⟨#[]⟩, .string ⟨#[]⟩, .int .i64 0, .int .i64 0, .string ⟨#[]⟩, .slice none 0 0, .int .i64 0]) w :=
  run_build w _ _ _ built_zero
/-- Two that are of Read's ways. -/
theorem read_ways {s : ByteArray} {R : Except (Int × Int) Ex} (hR : ParseIs s.data.toList R) {r : PR} (hrun : ∀ T, lexS s.data.toList = .ok T → Rd T s.size (.lv 0) 0 r ∧ ((∃ k : Nat, r = .error k ∧ R = .error (2, (k : Int))) ∨ ∃ x j, r = .ok (x, j) ∧ ((j < T.length ∧ R = .error (2, (atT T s.size j : Int))) ∨ (T.length ≤ j ∧ ((fullB x = true ∧ R = .error (4, 0)) ∨ (fullB x = false ∧ R = .ok x)))))) {eb : Nat} {w2 w3 : World} {e : Ending}
    (hc : (∃ h p, lexS s.data.toList = .bad h p ∧ e = .returned (faultV h p)) ∨ ∃ T, lexS s.data.toList = .ok T ∧ ((∃ k : Nat, r = .error k ∧ e = .returned (faultV 2 k)) ∨ ∃ j, PP s r eb w2 T j w3 ∧ j ≤ T.length ∧ ((j < T.length ∧ e = .returned (faultV 2 (atT T s.size j))) ∨ (T.length ≤ j ∧ e = .returned (faultV 0 0))))) :
    (∃ h p, R = .error (h, p) ∧ (h == 0) = false ∧ e = .returned (faultV h p)) ∨ ∃ x y, (fullB x = true ∧ R = .error (4, 0) ∨ fullB x = false ∧ R = .ok x) ∧ e = .returned (faultV 0 0) ∧ strip y = x ∧ Own7 w3 eb y ∧ SeesS (fun b => w2.heap.size < b) w3 y := by
  rcases hc with ⟨h, p, hl, he⟩ | ⟨T, hl, hc⟩
  · rcases hR with ⟨h', p', hl', hR⟩ | ⟨T, _, hl', _⟩
    · rw [hl] at hl'
      injection hl' with h1 h2
      subst h1 h2
      exact Or.inl ⟨h, p, hR, beq_eq_false_iff_ne.2 (lexS_bad hl).1, he⟩
    · rw [hl] at hl'; cases hl'
  · obtain ⟨-, hw⟩ := hrun T hl
    rcases hc with ⟨k, hk, he⟩ | ⟨j, hp, hj, hc⟩
    · rcases hw with ⟨k', hk', hR⟩ | ⟨x, j, hk', _⟩
      · rw [hk] at hk'
        injection hk' with hk'
        subst hk'
        exact Or.inl ⟨2, k, hR, rfl, he⟩
      · rw [hk] at hk'; cases hk'
    · obtain ⟨-, x, y, hx, h3, h4, h5⟩ := hp
      rcases hw with ⟨k', hk', hR⟩ | ⟨x', j', hk', hw⟩
      · rw [hx] at hk'; cases hk'
      · rw [hx] at hk'
        injection hk' with hk'
        injection hk' with e1 e2
        subst e1 e2
        rcases hc with ⟨hj1, he⟩ | ⟨hj1, he⟩
        · rcases hw with ⟨_, hR⟩ | ⟨hj2, _⟩
          · exact Or.inl ⟨2, _, hR, rfl, he⟩
          · omega
        · rcases hw with ⟨hj2, _⟩ | ⟨_, hR⟩
          · omega
          · exact Or.inr ⟨x, y, hR, he, h3, h4, h5⟩
set_option maxHeartbeats 4000000 in
set_option maxRecDepth 100000 in
theorem rdParse_any (s : ByteArray) (hs : s.size ≤ maxLen) {R : Except (Int × Int) Ex} (hR : ParseIs s.data.toList R) (w : World) (hlev : LevelsT w) (hwords : WordsT w) (htext : TextT w) (hnum : NumT w) (hsigns : SignsT w) : Calls Tryz.prog 27 #[.string s] w (PSays R w) := by
  have hmf : ∀ (fn : Fn) (first cap : Array Value) (w : World), (Instr.makeFunc fn first cap).run Tryz.prog w = .ok (.func fn first cap) w := fun _ _ _ _ => rfl
  obtain ⟨w0, hw0, ho0, hb0⟩ := box_zeroE w
  obtain ⟨w1, hw1⟩ : ∃ w1, w0.alloc (.cells #[.int .i64 0, .int .i64 0] 34) = w1 := ⟨_, rfl⟩
  have hb1 : Below w0.heap.size w0 w1 := by rw [← hw1]; exact belowNew' _ _
  have ho1 : Own2F w1 w0.heap.size 0 0 := by rw [← hw1]; exact own2f_new w0 0 0
  obtain ⟨w2, hw2, ho2, hb2⟩ := box_zeroE w1
  have HB2 := Lib.hid (below_step (below_step hb0 hb1) hb2)
  have HSZ := Lib.hid (show w.heap.size < w0.heap.size ∧ w0.heap.size < w1.heap.size ∧ w1.heap.size < w2.heap.size from ⟨ho0.lt, ho1.lt, ho2.lt⟩)
  have hrun : ∃ (r : PR), ∀ T, lexS s.data.toList = .ok T → Rd T s.size (.lv 0) 0 r ∧ ((∃ k : Nat, r = .error k ∧ R = .error (2, (k : Int))) ∨ ∃ x j, r = .ok (x, j) ∧ ((j < T.length ∧ R = .error (2, (atT T s.size j : Int))) ∨ (T.length ≤ j ∧ ((fullB x = true ∧ R = .error (4, 0)) ∨ (fullB x = false ∧ R = .ok x))))) := by
    rcases hR with ⟨h, p, hl, -⟩ | ⟨T, r, hl, hr, hw⟩
    · exact ⟨.error 0, fun T hT => by rw [hl] at hT; cases hT⟩
    · exact ⟨r, fun T' hT => by rw [hl] at hT; injection hT with hT; subst hT; exact ⟨hr, hw⟩⟩
  obtain ⟨r, hrun⟩ := hrun
  have T1 := Lib.hid (read_any s hs 81 (fun _ _ => by simp [go_sem]) w1.heap.size (PP s r w1.heap.size w2) (fun T k => r = .error k) w w2 hlev hwords htext hnum hsigns HB2.out HSZ.out.2.2
    (fun T j u v hp ho => by
      obtain ⟨h1, x, y, h2, h3, h4, h5⟩ := hp
      exact ⟨h1, x, y, h2, h3, own7_only h4 ho (fun e => by have := HSZ.out; have e' : w1.heap.size = w2.heap.size := e; omega), h5.keep (alike_only2 ho (fun b hb e => by have hb' : w2.heap.size < b := hb; have e' : b = w2.heap.size := e; omega))⟩)
    (fun T hT w' rb A c hrb hRd hE ho => (parse1_any hT (hrun T hT).1 w1.heap.size w w2 w' rb A c hRd hE (own7_only ho2 ho (fun e => e)) (by have := HSZ.out; omega) (Nat.lt_of_lt_of_le hrb (Nat.le_of_lt hRd.lt)) HSZ.out.2.2).mono (fun e w'' h => h)))
  have HO0X := Lib.hid ((ho0.keep hb1).keep hb2)
  have HO1X := Lib.hid (ho1.keep hb2)
  have HW0 := Lib.hid hw0
  have HW1 := Lib.hid hw1
  have HW2 := Lib.hid hw2
  clear hw0 ho0 hb0 hw1 hb1 ho1 hw2 ho2 hb2 hlev hwords htext hnum hsigns hs
  go_enter Tryz.func27, Tryz.ntmps27
  go_wp2_with (first | rw [HW0.out] | rw [HW1.out] | rw [HW2.out])
  refine (T1.out).mono ?_
  rintro e w3 ⟨hn3, hcase⟩
  have HN3 := Lib.hid hn3
  have HO1 := Lib.hid (HO1X.out.only hn3 (fun e => by have := HSZ.out; have e' : w0.heap.size = w1.heap.size := e; omega))
  have HZ0 := Lib.hid (own7_only HO0X.out hn3 (fun e => by have := HSZ.out; have e' : w.heap.size = w1.heap.size := e; omega))
  clear hn3 T1
  have HCASE := Lib.hid (read_ways hR hrun hcase)
  clear hcase
  have HNX := Lib.hid (((Only.of_below (S := fun _ => False) HB2.out).then_new HN3.out (Nat.le_of_lt (Nat.lt_trans HSZ.out.1 HSZ.out.2.1))))
  rcases HCASE.out with ⟨h, p, hRR, hh, rfl⟩ | ⟨x, y, hRR, rfl, hst, hoy, hsy⟩
  · unfold faultV
    obtain ⟨w4, hw4⟩ : ∃ w4, w3.alloc (.cells #[.int .i64 h, .int .i64 p] 34) = w4 := ⟨_, rfl⟩
    have hb4 : Below w3.heap.size w3 w4 := by rw [← hw4]; exact belowNew' _ _
    have ho4 : Own2F w4 w3.heap.size h p := by rw [← hw4]; exact own2f_new w3 _ _
    obtain ⟨c0, c1⟩ := ho4.cells
    have hl4 := ho4.lt
    have hh2 : (h != 0) = true := by simpa using hh
    have HNQ := Lib.hid (HNX.out.trans (.of_below hb4))
    have HZQ := Lib.hid (HZ0.out.keep hb4)
    have HO1Q := Lib.hid (HO1.out.keep hb4)
    have HSQ := Lib.hid ho4
    have HSK := Lib.hid (show ∀ wf, Only (fun b => b = w.heap.size) w4 wf → Own2F wf w3.heap.size h p from fun wf hf => ho4.only hf (fun e => by have := HSZ.out; have := HN3.out.size; omega))
    have HSK2 := Lib.hid (show ∀ wf wg, Own2F wf w3.heap.size h p → Only (fun b => b = w0.heap.size) wf wg → Own2F wg w3.heap.size h p from fun wf wg h1 hf => h1.only hf (fun e => by have := HSZ.out; have := HN3.out.size; omega))
    have HW4 := Lib.hid hw4
    clear hw4 hb4 ho4
    go_wp2_with (first | rw [HW4.out])
    clear c0 c1 hl4
    refine wp_region_held (S := fun w' => Own2F w' w3.heap.size h p) (by kernel_rfl) ?_
    change wpAnyH _ _ _ _ _ _ _ _ (World.drew w4)
    have HS : (fun w' : World => Own2F w' w3.heap.size h p) (World.drew w4) := HSQ.out
    refine takeH (i := 0) (d := some 20) (v := .agg #[.string ⟨#[]⟩, .string ⟨#[]⟩, .int .i64 0, .int .i64 0, .string ⟨#[]⟩, .slice none 0 0, .int .i64 0]) rfl rfl (by kernel_rfl) (by kernel_rfl) (by kernel_rfl) (fun _ _ _ h => h) (Or.inl ⟨by rfl, fun w' hS => by have bz := run_zero w'; go_simp⟩) HS ?_
    simp only [Act.put, List.setIfInBounds_toArray, List.set_cons_zero, List.set_cons_succ]
    refine takeH (i := 1) (d := some 21) (v := .agg #[.int .i64 h, .int .i64 p]) rfl rfl (by kernel_rfl) (by kernel_rfl) (by kernel_rfl) (fun _ _ _ h => h) (Or.inl ⟨by rfl, fun w' hS => by obtain ⟨c0, c1⟩ := Own2F.cells hS; go_simp⟩) HS ?_
    simp only [Act.put, List.setIfInBounds_toArray, List.set_cons_zero, List.set_cons_succ]
    refine wpAnyH_all (rs := [2]) (by kernel_rfl) (by simp) (fun jj hj => ?_)
    obtain rfl : jj = 2 := by simpa using hj
    refine wpOp_store7 rfl rfl _ _ rfl rfl (X := zeroE) (show Own7 (World.drew w4) w.heap.size zeroE from HZQ.out) rfl rfl ?_
    intro wf hzf hof
    have hsf : Own2F wf w3.heap.size h p := HSK.out wf hof.drewL
    refine ⟨hsf, ?_⟩
    refine wpAnyH_all (rs := [3]) (by kernel_rfl) (by simp) (fun jj hj => ?_)
    obtain rfl : jj = 3 := by simpa using hj
    refine wpOp_store2 rfl rfl _ _ rfl rfl (h := h) (p := p) (HO1Q.out.only hof.drewL (fun e => by have := HSZ.out; have e' : w0.heap.size = w.heap.size := e; omega)) rfl rfl ?_
    intro wg hzg hog
    have hsg : Own2F wg w3.heap.size h p := HSK2.out wf wg hsf hog
    refine ⟨hsg, ?_⟩
    refine wpAnyH_done (by kernel_rfl) ?_ _
    have HFIN := Lib.hid ((HNQ.out.then_new hof.drewL (Nat.le_refl _)).then_new hog (Nat.le_of_lt HSZ.out.1))
    have HZF := Lib.hid (own7_only hzf hog (fun e => by have := HSZ.out; have e' : w.heap.size = w0.heap.size := e; omega))
    have HGF := Lib.hid hzg
    clear hzf hof hsf hzg hog hsg HS
    go_wp2_with fail
    obtain ⟨o0, o1, o2, o3, o4, o5, o6⟩ := HZF.out.cells
    obtain ⟨p0, p1⟩ := HGF.out.cells
    refine bodyPost_ret (v := .tuple #[exV zeroE, faultV h p]) ?_ rfl ?_
    · simp [results, Tryz.results27, go_sem, o0, o1, o2, o3, o4, o5, o6, p0, p1, exV, faultV, zeroE, noVal]
    · rw [hRR]; exact ⟨HFIN.out.below (Nat.le_refl _) (fun k e => e.elim), rfl⟩
  · have HST := Lib.hid hst
    have HOY := Lib.hid hoy
    have HSY := Lib.hid hsy
    have HRR := Lib.hid hRR
    clear hst hoy hsy hRR
    obtain ⟨z, hz⟩ : ∃ z : Int, (0 : Int) = z := ⟨_, rfl⟩
    rw [show faultV 0 0 = .agg #[.int .i64 z, .int .i64 z] by rw [← hz]; rfl]
    obtain ⟨w4, hw4⟩ : ∃ w4, w3.alloc (.cells #[.int .i64 z, .int .i64 z] 34) = w4 := ⟨_, rfl⟩
    have hb4 : Below w3.heap.size w3 w4 := by rw [← hw4]; exact belowNew' _ _
    have ho4 : Own2F w4 w3.heap.size z z := by rw [← hw4]; exact own2f_new w3 _ _
    obtain ⟨c0, c1⟩ := ho4.cells
    have hl4 := ho4.lt
    have hh2 : (z == 0) = true := by rw [← hz]; rfl
    have HZE := Lib.hid hz
    clear hz
    have hoy4 := HOY.out.keep hb4
    obtain ⟨y0, y1, y2, y3, y4, y5, y6⟩ := hoy4.cells
    have hly4 := hoy4.lt
    have T5 := Lib.hid (full_any y w4 (HSY.out.keep (.of_below hb4)).see)
    unfold exV at T5
    have HF4 := Lib.hid ho4
    have HNQ4 := Lib.hid (HNX.out.trans (.of_below hb4))
    have HZQ4 := Lib.hid (HZ0.out.keep hb4)
    have HO1Q4 := Lib.hid (HO1.out.keep hb4)
    have HSY4 := Lib.hid (HSY.out.keep (.of_below hb4))
    have HOY4 := Lib.hid hoy4
    have HW4 := Lib.hid hw4
    have HL3 := Lib.hid HN3.out.size
    clear hw4 hb4 ho4 hoy4
    have hfy : fullB y = fullB x := by rw [← HST.out, strip_full]
    rw [hfy] at T5
    rcases HRR.out with ⟨hf, hRR⟩ | ⟨hf, hRR⟩
    · rw [hf] at T5
      clear hf hfy
      go_wp2_with (first | rw [HW4.out])
      refine (T5.out).mono ?_
      rintro e' w5 ⟨rfl, hb5⟩
      obtain rfl := HZE.out
      have ho5 := HF4.out.keep hb5
      obtain ⟨c0, c1⟩ := ho5.cells
      obtain ⟨f0, f1⟩ := ho5.frees
      have hl5 := ho5.lt
      obtain ⟨w6, hw6⟩ : ∃ w6, w5.setCell ⟨w3.heap.size, 0, none⟩ (.int .i64 4) = w6 := ⟨_, rfl⟩
      have ho6 : Own2F w6 w3.heap.size 4 0 := by
        rw [← hw6]
        unfold Own2F
        rw [heap_setCell_same _ _ _ _ _ _ ho5]
        rfl
      have hn6 : Only (fun k => k = w3.heap.size) w5 w6 := by rw [← hw6]; exact (Only.refl (fun k => k = w3.heap.size) w5).setCell (p := ⟨w3.heap.size, 0, none⟩) rfl _
      obtain ⟨d0, d1⟩ := ho6.cells
      have hl6 := ho6.lt
      have HNQ := Lib.hid ((HNQ4.out.trans (.of_below hb5)).then_new hn6 (by have := HSZ.out; have := HL3.out; omega))
      have HZQ := Lib.hid (own7_only (HZQ4.out.keep hb5) hn6 (fun e => by have := HSZ.out; have := HL3.out; omega))
      have HO1Q := Lib.hid ((HO1Q4.out.keep hb5).only hn6 (fun e => by have := HSZ.out; have := HL3.out; omega))
      have HSQ := Lib.hid ho6
      have HSK := Lib.hid (show ∀ wf, Only (fun b => b = w.heap.size) w6 wf → Own2F wf w3.heap.size 4 0 from fun wf hf => ho6.only hf (fun e => by have := HSZ.out; have := HL3.out; omega))
      have HSK2 := Lib.hid (show ∀ wf wg, Own2F wf w3.heap.size 4 0 → Only (fun b => b = w0.heap.size) wf wg → Own2F wg w3.heap.size 4 0 from fun wf wg h1 hf => h1.only hf (fun e => by have := HSZ.out; have := HL3.out; omega))
      have HW6 := Lib.hid hw6
      have hh3 : ((4 : Int) != 0) = true := rfl
      clear hw6 hb5 ho5 ho6 hn6 T5
      go_wp2_with (first | rw [HW6.out])
      clear c0 c1 f0 f1 hl5 d0 d1 hl6 y0 y1 y2 y3 y4 y5 y6 hly4 hl4
      refine wp_region_held (S := fun w' => Own2F w' w3.heap.size 4 0) (by kernel_rfl) ?_
      change wpAnyH _ _ _ _ _ _ _ _ (World.drew w6)
      have HS : (fun w' : World => Own2F w' w3.heap.size 4 0) (World.drew w6) := HSQ.out
      refine takeH (i := 0) (d := some 20) (v := .agg #[.string ⟨#[]⟩, .string ⟨#[]⟩, .int .i64 0, .int .i64 0, .string ⟨#[]⟩, .slice none 0 0, .int .i64 0]) rfl rfl (by kernel_rfl) (by kernel_rfl) (by kernel_rfl) (fun _ _ _ h => h) (Or.inl ⟨by rfl, fun w' hS => by have bz := run_zero w'; go_simp⟩) HS ?_
      simp only [Act.put, List.setIfInBounds_toArray, List.set_cons_zero, List.set_cons_succ]
      refine takeH (i := 1) (d := some 21) (v := .agg #[.int .i64 4, .int .i64 0]) rfl rfl (by kernel_rfl) (by kernel_rfl) (by kernel_rfl) (fun _ _ _ h => h) (Or.inl ⟨by rfl, fun w' hS => by obtain ⟨c0, c1⟩ := Own2F.cells hS; go_simp⟩) HS ?_
      simp only [Act.put, List.setIfInBounds_toArray, List.set_cons_zero, List.set_cons_succ]
      refine wpAnyH_all (rs := [2]) (by kernel_rfl) (by simp) (fun jj hj => ?_)
      obtain rfl : jj = 2 := by simpa using hj
      refine wpOp_store7 rfl rfl _ _ rfl rfl (X := zeroE) (show Own7 (World.drew w6) w.heap.size zeroE from HZQ.out) rfl rfl ?_
      intro wf hzf hof
      have hsf : Own2F wf w3.heap.size 4 0 := HSK.out wf hof.drewL
      refine ⟨hsf, ?_⟩
      refine wpAnyH_all (rs := [3]) (by kernel_rfl) (by simp) (fun jj hj => ?_)
      obtain rfl : jj = 3 := by simpa using hj
      refine wpOp_store2 rfl rfl _ _ rfl rfl (h := 4) (p := 0) (HO1Q.out.only hof.drewL (fun e => by have := HSZ.out; have e' : w0.heap.size = w.heap.size := e; omega)) rfl rfl ?_
      intro wg hzg hog
      have hsg : Own2F wg w3.heap.size 4 0 := HSK2.out wf wg hsf hog
      refine ⟨hsg, ?_⟩
      refine wpAnyH_done (by kernel_rfl) ?_ _
      have HFIN := Lib.hid ((HNQ.out.then_new hof.drewL (Nat.le_refl _)).then_new hog (Nat.le_of_lt HSZ.out.1))
      have HZF := Lib.hid (own7_only hzf hog (fun e => by have := HSZ.out; have e' : w.heap.size = w0.heap.size := e; omega))
      have HGF := Lib.hid hzg
      clear hzf hof hsf hzg hog hsg HS
      go_wp2_with fail
      obtain ⟨o0, o1, o2, o3, o4, o5, o6⟩ := HZF.out.cells
      obtain ⟨p0, p1⟩ := HGF.out.cells
      refine bodyPost_ret (v := .tuple #[exV zeroE, faultV 4 0]) ?_ rfl ?_
      · simp [results, Tryz.results27, go_sem, o0, o1, o2, o3, o4, o5, o6, p0, p1, exV, faultV, zeroE, noVal]
      · rw [hRR]; exact ⟨HFIN.out.below (Nat.le_refl _) (fun k e => e.elim), rfl⟩
    · rw [hf] at T5
      clear hf hfy
      go_wp2_with (first | rw [HW4.out])
      refine (T5.out).mono ?_
      rintro e' w5 ⟨rfl, hb5⟩
      obtain rfl := HZE.out
      have ho5 := HF4.out.keep hb5
      obtain ⟨c0, c1⟩ := ho5.cells
      have hl5 := ho5.lt
      have HNQ := Lib.hid (HNQ4.out.trans (.of_below hb5))
      have HZQ := Lib.hid (HZQ4.out.keep hb5)
      have HO1Q := Lib.hid (HO1Q4.out.keep hb5)
      have HSQ := Lib.hid (show Own2F w5 w3.heap.size 0 0 ∧ Own7 w5 w1.heap.size y from ⟨ho5, HOY4.out.keep hb5⟩)
      have HSY5 := Lib.hid (HSY4.out.keep (.of_below hb5))
      have HSK := Lib.hid (show ∀ wf, Only (fun b => b = w.heap.size) w5 wf → Own2F wf w3.heap.size 0 0 ∧ Own7 wf w1.heap.size y from fun wf hf => ⟨HSQ.out.1.only hf (fun e => by have := HSZ.out; have := HL3.out; omega), own7_only HSQ.out.2 hf (fun e => by have := HSZ.out; have := HL3.out; omega)⟩)
      have HSK2 := Lib.hid (show ∀ wf wg, Own2F wf w3.heap.size 0 0 ∧ Own7 wf w1.heap.size y → Only (fun b => b = w0.heap.size) wf wg → Own2F wg w3.heap.size 0 0 ∧ Own7 wg w1.heap.size y from fun wf wg h1 hf => ⟨h1.1.only hf (fun e => by have := HSZ.out; have := HL3.out; omega), own7_only h1.2 hf (fun e => by have := HSZ.out; have := HL3.out; omega)⟩)
      have hh3 : ((0 : Int) != 0) = false := rfl
      clear hb5 ho5 T5
      go_wp2_with fail
      clear c0 c1 hl5 y0 y1 y2 y3 y4 y5 y6 hly4 hl4
      refine wp_region_held (S := fun w' => Own2F w' w3.heap.size 0 0 ∧ Own7 w' w1.heap.size y) (by kernel_rfl) ?_
      change wpAnyH _ _ _ _ _ _ _ _ (World.drew w5)
      have HS : (fun w' : World => Own2F w' w3.heap.size 0 0 ∧ Own7 w' w1.heap.size y) (World.drew w5) := HSQ.out
      refine takeH (i := 0) (d := some 22) (v := .agg #[.string y.op, .string y.name, .int .i64 y.val.type, .int .i64 y.val.n, .string y.val.s, .slice y.A y.args.length y.c, .int .i64 y.pos]) rfl rfl (by kernel_rfl) (by kernel_rfl) (by kernel_rfl) (fun _ _ _ h => h) (Or.inl ⟨by rfl, fun w' hS => by obtain ⟨e0, e1, e2, e3, e4, e5, e6⟩ := Own7.cells hS.2; go_simp⟩) HS ?_
      simp only [Act.put, List.setIfInBounds_toArray, List.set_cons_zero, List.set_cons_succ]
      refine takeH (i := 1) (d := some 23) (v := .agg #[.int .i64 0, .int .i64 0]) rfl rfl (by kernel_rfl) (by kernel_rfl) (by kernel_rfl) (fun _ _ _ h => h) (Or.inl ⟨by rfl, fun w' hS => by obtain ⟨c0, c1⟩ := Own2F.cells hS.1; go_simp⟩) HS ?_
      simp only [Act.put, List.setIfInBounds_toArray, List.set_cons_zero, List.set_cons_succ]
      refine wpAnyH_all (rs := [2]) (by kernel_rfl) (by simp) (fun jj hj => ?_)
      obtain rfl : jj = 2 := by simpa using hj
      refine wpOp_store7 rfl rfl _ _ rfl rfl (X := y) (show Own7 (World.drew w5) w.heap.size zeroE from HZQ.out) rfl rfl ?_
      intro wf hzf hof
      have hsf : Own2F wf w3.heap.size 0 0 ∧ Own7 wf w1.heap.size y := HSK.out wf hof.drewL
      refine ⟨hsf, ?_⟩
      refine wpAnyH_all (rs := [3]) (by kernel_rfl) (by simp) (fun jj hj => ?_)
      obtain rfl : jj = 3 := by simpa using hj
      refine wpOp_store2 rfl rfl _ _ rfl rfl (h := 0) (p := 0) (HO1Q.out.only hof.drewL (fun e => by have := HSZ.out; have e' : w0.heap.size = w.heap.size := e; omega)) rfl rfl ?_
      intro wg hzg hog
      have hsg : Own2F wg w3.heap.size 0 0 ∧ Own7 wg w1.heap.size y := HSK2.out wf wg hsf hog
      refine ⟨hsg, ?_⟩
      refine wpAnyH_done (by kernel_rfl) ?_ _
      have HFIN := Lib.hid ((HNQ.out.then_new hof.drewL (Nat.le_refl _)).then_new hog (Nat.le_of_lt HSZ.out.1))
      have HZF := Lib.hid (own7_only hzf hog (fun e => by have := HSZ.out; have e' : w.heap.size = w0.heap.size := e; omega))
      have HGF := Lib.hid hzg
      have HSYF := Lib.hid (((HSY5.out.keep (alike_only2 hof.drewL (fun b hb e => by have := HSZ.out; have hb' : w2.heap.size < b := hb; have e' : b = w.heap.size := e; omega))).keep (alike_only2 hog (fun b hb e => by have := HSZ.out; have hb' : w2.heap.size < b := hb; have e' : b = w0.heap.size := e; omega))).mono (T := fun b => w.heap.size ≤ b) (fun b hb => by have := HSZ.out; have hb' : w2.heap.size < b := hb; omega))
      clear hzf hof hsf hzg hog hsg HS
      go_wp2_with fail
      obtain ⟨o0, o1, o2, o3, o4, o5, o6⟩ := HZF.out.cells
      obtain ⟨p0, p1⟩ := HGF.out.cells
      refine bodyPost_ret (v := .tuple #[exV y, faultV 0 0]) ?_ rfl ?_
      · simp [results, Tryz.results27, go_sem, o0, o1, o2, o3, o4, o5, o6, p0, p1, exV, faultV]
      · rw [hRR]; exact ⟨HFIN.out.below (Nat.le_refl _) (fun k e => e.elim), y, rfl, HSYF.out, HST.out⟩
end Go.Proofs.YtpbbkpfaphjdoaaGreatDoor
