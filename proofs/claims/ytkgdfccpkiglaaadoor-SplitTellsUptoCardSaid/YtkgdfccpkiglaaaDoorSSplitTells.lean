/- Of the law SplitTells: the card Rows.SplitTellsUptoCardSaid, on the condition that what comes in is of bulk at most 1048576: it returns true. -/
import Derived.Test.YtkgdfccpkiglaaaDoorSTold
import Derived.Test.YtkgdfccpkiglaaaDoorSSplitLaw
import Derived.Test.YtkgdfccpkiglaaaDoorSRefPart
import Derived.Test.YtkgdfccpkiglaaaDoorSJoinGo
import Derived.Test.YtkgdfccpkiglaaaDoorSJoinRef
import Derived.Test.YtkgdfccpkiglaaaDoorSOpenOuts
import Derived.Test.YtkgdfccpkiglaaaDoorSOpenInts
import Derived.Test.YtkgdfccpkiglaaaDoorSSameInts
import Derived.Deep.DeepHandedRow
import Derived.Deep.RegionHeld3
namespace Go.Proofs.YtkgdfccpkiglaaaDoor.splitTells
open Go.ChangeShapes Go.WideShapes Go.ChangeAt Go.RowKit SortLaw
theorem errIs_errV (k : Int) : ErrIs (errV k) k := by
 by_cases h : k = 0
 ·subst h; exact Or.inl ⟨rfl, rfl⟩
 ·exact Or.inr ⟨errV_ne h, h⟩
def JoinRes (gI : Int) (l : List OutP) (w : World) (wrap : Int → Value) (e : Ending) (w' : World) : Prop :=
 ∃ A n c hs, e = .returned (.tuple #[.slice A n c, wrap (joinErr gI l)]) ∧ SeesOuts w' A n c hs ∧ (joinErr gI l = 0 → JoinIs gI.toNat l (hs.map (·.o))) ∧ (joinErr gI l ≠ 0 → hs = []) ∧ Below w.heap.size w w'
theorem res_of {gI : Int} {l : List OutP} {w w' : World} {wrap : Int → Value} {e : Ending} (h : JoinPost gI l w wrap e w') : JoinRes gI l w wrap e w' := by
 obtain ⟨h | h, hb⟩ := h
 ·exact ⟨none, 0, 0, [], h.2, ⟨Sees.nil _ _, by simp⟩, fun e => absurd e h.1, fun _ => rfl, hb⟩
 ·obtain ⟨h0, A, n, c, hs, he, h1, h2⟩ := h
  exact ⟨A, n, c, hs, by rw [h0]; exact he, h1, fun _ => h2, fun e => absurd h0 e, hb⟩
theorem res_same {gI : Int} {l : List OutP} {hs ks : List OutH} (h0 : joinErr gI l = 0 → JoinIs gI.toNat l (hs.map (·.o))) (h1 : joinErr gI l ≠ 0 → hs = []) (k0 : joinErr gI l = 0 → JoinIs gI.toNat l (ks.map (·.o))) (k1 : joinErr gI l ≠ 0 → ks = []) :
  hs.map (·.o) = ks.map (·.o) := by
 by_cases e : joinErr gI l = 0
 ·exact joinIs_one (h0 e) (k0 e)
 ·rw [h1 e, k1 e]
theorem part_all (R C : Option Addr) (m cr k ck : Nat) (n : Int) (r : List Val) (cols : List Int) (w : World) (hR : SeesVals w R m cr r) (hw : ∀ v ∈ r, v.wf) (hC : Sees w C k ck 1 (intCells cols)) (pk pe : Int)
  (hpe : partErr n m cols = pe) (hpk : (if partErr n m cols = 0 then partOf r cols n else 0) = pk) :
  Calls Tryd.prog 5 #[.slice R m cr, .slice C k ck, .int .i64 n] w fun e w' => e = .returned (.tuple #[.int .i64 pk, errV pe]) ∧ Below w.heap.size w w' := by
 by_cases hn : n < 1 ∨ 8 < n
 ·have he : partErr n m cols = 1 := by unfold partErr; rw [if_pos hn]
  rw [he] at hpe hpk
  subst hpe
  rw [if_neg (by decide)] at hpk
  subst hpk
  exact part_num R C m cr k ck n w hn
 ·refine (part_any R C m cr k ck n r cols w (by omega) (by omega) hR hw hC).mono fun e w' h => ⟨?_, h.2⟩
  rw [h.1]
  by_cases hb : cols.any (badCol m) = true
  ·have he : partErr n m cols = 1 := by unfold partErr; rw [if_neg hn, if_pos hb]
   rw [he] at hpe hpk
   subst hpe
   rw [if_neg (by decide)] at hpk
   subst hpk
   rw [if_pos hb]; rfl
  ·have he : partErr n m cols = 0 := by unfold partErr; rw [if_neg hn, if_neg hb]
   rw [he] at hpe hpk
   subst hpe
   rw [if_pos rfl] at hpk
   subst hpk
   rw [if_neg hb]; rfl
def Why (hs : List RowH) (cols : List Int) (n : Int) (m : Nat) (e0 : Int) : Prop := (e0 = 4 ∧ 300 < m) ∨ (e0 = 1 ∧ m ≤ 300 ∧ (n < 1 ∨ 8 < n ∨ ∃ h ∈ hs, cols.any (badCol h.n) = true))
theorem why_parts {hs : List RowH} {cols : List Int} {n : Int} {m : Nat} {e0 : Int} (h : Why hs cols n m e0) {w w' : World} {e : Ending} (hp : PartsSay hs cols n m w e w') :
  e = .returned (.tuple #[.slice none 0 0, errV e0]) ∧ Below w.heap.size w w' := by
 obtain ⟨hp, hb⟩ := hp
 refine ⟨?_, hb⟩
 rcases hp with ⟨k, hk, rfl⟩ | ⟨h1, h8, hm, hg, -⟩
 ·have : k = e0 := by
   rcases h with ⟨a, b⟩ | ⟨a, b, -⟩ <;> rcases hk with ⟨c, d⟩ | ⟨c, d, -⟩ <;> omega
  subst this
  have hk0 : k ≠ 0 := by rcases hk with ⟨c, -⟩ | ⟨c, -⟩ <;> omega
  rw [errV_ne hk0]
 ·exfalso
  rcases h with ⟨a, b⟩ | ⟨a, b, c | c | ⟨x, hx, hb⟩⟩
  ·omega
  ·omega
  ·omega
  ·rw [hg x hx] at hb; cases hb
theorem genW {Q R : World → Prop} {w' : World} (h : R w') (k : ∀ w5, R w5 → Q w5) : Q w' := k _ h
theorem lists_cell {w : World} {B g N : Nat} {vals : Nat → Value} {ls : Nat → List Int} (h : Lists w B g N vals ls) {i : Nat} (hi : i < N) :
  ∃ A c, w.cell? ⟨g, i, none⟩ = some (.slice A (ls i).length c) ∧ Sees w A (ls i).length c 1 (ints (ls i)) := by
 obtain ⟨A, c, hv, hs⟩ := Sees.of_own (h.rows i hi)
 refine ⟨A, c, ?_, hs⟩
 have := h.outer.cells (g := g) rfl i (vals i) (by rw [List.getElem?_map, List.getElem?_range hi]; rfl)
 rwa [addr_addN, Nat.zero_add, hv] at this
set_option maxHeartbeats 8000000 in
set_option maxRecDepth 100000 in
theorem walk (A C D : Option Addr) (m c k ck dc : Nat) (n G : Int) (hs : List RowH) (cols : List Int) (ls : List ListH) (w : World) (hG : ErrT w) (hR : SeesRows w A m c hs) (hw : ∀ h ∈ hs, ∀ v ∈ h.r, v.wf) (hC : Sees w C k ck 1 (intCells cols))
  (hD : SeesLists w D ls.length dc ls) (hm : ls.length ≤ 1048576) (hl : ∀ l ∈ ls, l.hs.length ≤ 1048576) (hr : ∀ h ∈ flat ls, h.o.row.length ≤ 1048576) (hwo : ∀ h ∈ flat ls, ∀ v ∈ h.o.row, v.wf) :
  Calls Tryd.prog 3 #[.slice A m c, .slice C k ck, .int .i64 n, .slice D ls.length dc, .int .i64 G] w fun e w' => e = .returned (.bool true) ∧ Below w.heap.size w w' := by
 have HG := Lib.hid hG
 have HR := Lib.hid hR
 have HC := Lib.hid hC
 have HWF := Lib.hid hw
 have HLn := Lib.hid hR.len
 have hcap := hR.1.2.1
 have hmax := hR.1.2.2.1
 have hckk := hC.2.1
 have hckm := hC.2.2.1
 unfold maxLen at hmax hckm
 have TJ := Lib.hid (fun w' (hb : Below w.heap.size w w') => (rjoin_any D ls.length dc ls G w' (hD.keep hb) hm hl hwo).mono fun e w2 h => res_of h)
 have TP := Lib.hid (fun w' (hb : Below w.heap.size w w') => (join_any D ls.length dc ls G w' (hD.keep hb) hm hl hr).mono fun e w2 h => res_of h)
 have TSE := Lib.hid (fun (e0 : Int) w' (hb : Below w.heap.size w w') => (same_err (errV e0) e0 e0 w' (HG.out.keep hb) (errIs_errV e0)).mono fun e w2 h => show e = .returned (.bool true) ∧ Below w'.heap.size w' w2 from ⟨by rw [h.1, beq_self_eq_true], h.2⟩)
 generalize hln : ls.length = ln at *
 have hlnb := hm
 have HROW := Lib.hid (fun w' (hb : Below w.heap.size w w') (q : Nat) (hq : q < m) => show ∃ g o x pk pe, A = some ⟨g, o, none⟩ ∧ hs[q]? = some x ∧ w'.cell? ⟨g, o + q, none⟩ = some (.slice x.R x.n x.c) ∧ g < w'.heap.size ∧ partErr n x.n cols = pe ∧ (if partErr n x.n cols = 0 then partOf x.r cols n else 0) = pk ∧
   Calls Tryd.prog 4 #[.slice x.R x.n x.c, .slice C k ck, .int .i64 n] w' (fun e w2 => e = .returned (.tuple #[.int .i64 pk, .int .i64 pe]) ∧ Below w'.heap.size w' w2) ∧
   ∀ w3, Below w'.heap.size w' w3 → Calls Tryd.prog 5 #[.slice x.R x.n x.c, .slice C k ck, .int .i64 n] w3 (fun e w2 => e = .returned (.tuple #[.int .i64 pk, errV pe]) ∧ Below w3.heap.size w3 w2) by
  obtain ⟨g, o, x, e, hx, hsv, c1⟩ := (HR.out.keep hb).at_ hq
  have hwx := HWF.out x (List.mem_of_getElem? hx)
  refine ⟨g, o, x, _, _, e, hx, c1, ?_, rfl, rfl, rpart_any x.R C x.n x.c k ck n x.r cols w' hsv hwx (HC.out.keep hb), fun w3 hb3 => part_all x.R C x.n x.c k ck n x.r cols w3 (hsv.keep hb3) hwx ((HC.out.keep hb).keep hb3) _ _ rfl rfl⟩
  exact World.block_lt_of_cell? w' _ c1)
 have TPA := Lib.hid (fun w' (hb : Below w.heap.size w w') => parts_any A C m c k ck n hs cols w' (HR.out.keep hb) HWF.out (HC.out.keep hb))
 clear hG hR hw hC hD hm hl hr hwo hln
 by_cases hm3 : 300 < m
 ·have d1 : decide (300 < m) = true := decide_eq_true hm3
  have d1' : decide (300 < (m : Int)) = true := decide_eq_true (by omega)
  have HWHY := Lib.hid (show Why hs cols n m 4 from Or.inl ⟨rfl, hm3⟩)
  go_enter Tryd.func3, Tryd.ntmps3
  go_wp2_with fail
  go_loopw [11, 13] (fun e i wx => ∃ q : Nat, q ≤ m ∧ i = .int .i64 q ∧ e = .int .i64 4 ∧ Below w.heap.size w wx) (fun _ i _ => m - (intOf i).toNat)
  case atStart => exact ⟨0, Nat.zero_le _, rfl, rfl, Below.refl _ _⟩
  case round =>
   obtain ⟨q, hq, rfl, rfl, hb⟩ := hrel
   have HB := Lib.hid hb
   clear hb
   by_cases hqm : q < m
   ·obtain ⟨g, o, x, pk, pe, rfl, hx, c1, hg, hpe, hpk, hT, hP⟩ := HROW.out wr HB.out q hqm
    have HTR := Lib.hid hT
    have HTP := Lib.hid hP
    have pp : (pk != pk) = false := by simp
    clear hT hP hx hpe hpk
    go_wp2_with fail
    refine (HTR.out).mono ?_
    rintro e' w2 ⟨rfl, hb2⟩
    have HB2 := Lib.hid (below_step HB.out hb2)
    have HB02 := Lib.hid hb2
    have c1 := (hb2.cell (p := ⟨g, o + q, none⟩) hg).trans c1
    clear hb2
    by_cases h20 : q < 20
    ·have d20 : decide (q < 20) = true := decide_eq_true h20
     have d20' : decide ((q : Int) < 20) = true := decide_eq_true (by omega)
     clear h20
     go_wp2_with fail
     refine (HTP.out _ HB02.out).mono ?_
     rintro e' w3 ⟨rfl, hb3⟩
     have HB3 := Lib.hid (below_step HB2.out hb3)
     clear hb3
     go_wp2_with fail
     refine (TSE.out pe w3 HB3.out).mono ?_
     rintro e' w4 ⟨rfl, hb4⟩
     have HB4 := Lib.hid (below_step HB3.out hb4)
     clear hb4
     go_wp2_with fail
     go_roundw
     case rel => exact ⟨q + 1, by omega, by go_num, rfl, HB4.out⟩
     case measure => simp [intOf]; omega
    ·have d20 : decide (q < 20) = false := decide_eq_false h20
     have d20' : decide ((q : Int) < 20) = false := decide_eq_false (by omega)
     clear h20
     go_wp2_with fail
     go_roundw
     case rel => exact ⟨q + 1, by omega, by go_num, rfl, HB2.out⟩
     case measure => simp [intOf]; omega
   ·obtain rfl : q = m := by omega
    go_wp2_with fail
    refine (TPA.out wr HB.out).mono ?_
    rintro e' w5 hps
    obtain ⟨rfl, hb5⟩ := why_parts HWHY.out hps
    have HB5 := Lib.hid (below_step HB.out hb5)
    clear hps hb5
    go_wp2_with fail
    refine (TSE.out 4 w5 HB5.out).mono ?_
    rintro e' w6 ⟨rfl, hb6⟩
    have HB6 := Lib.hid (below_step HB5.out hb6)
    clear hb6
    go_wp2_with fail
    go_loopw [22] (fun i wx => i = .int .i64 0 ∧ Below w6.heap.size w6 wx) (fun _ _ => 0)
    case atStart => exact ⟨rfl, Below.refl _ _⟩
    case round =>
     obtain ⟨rfl, hb7⟩ := hrel
     have HB7 := Lib.hid (below_step HB6.out hb7)
     clear hb7
     go_wp2_with fail
     refine (TJ.out wr HB7.out).mono ?_
     rintro e' wa ⟨A1, n1, c1, hs1, rfl, hso1, hj1, hn1, hba⟩
     have HBA := Lib.hid (below_step HB7.out hba)
     have HSO1 := Lib.hid hso1
     have HJ1 := Lib.hid (And.intro hj1 hn1)
     clear hso1 hj1 hn1 hba
     unfold intV
     obtain ⟨je, hje⟩ : ∃ je, joinErr G (outsOf ls) = je := ⟨_, rfl⟩
     have HJE := Lib.hid hje
     rw [hje]
     clear hje
     go_wp2_with fail
     refine (TP.out wa HBA.out).mono ?_
     rintro e' wb ⟨A2, n2, c2, hs2, rfl, hso2, hj2, hn2, hbb⟩
     rw [HJE.out]
     have HEQ := Lib.hid (res_same hj2 hn2 HJ1.out.1 HJ1.out.2)
     have hnn : n2 = n1 := by
      have h1 := HSO1.out.len
      have h2 := hso2.len
      have h3 := congrArg List.length HEQ.out
      rw [List.length_map, List.length_map] at h3
      omega
     subst hnn
     have HSO1b := Lib.hid (HSO1.out.keep hbb)
     have HSO2 := Lib.hid hso2
     have HBB := Lib.hid (below_step HBA.out hbb)
     clear hso2 hj2 hn2 hbb
     go_wp2_with fail
     refine (TSE.out je wb HBB.out).mono ?_
     rintro e' wc ⟨rfl, hbc⟩
     have TO := Lib.hid (sameOuts_any A2 A1 n2 c2 c1 hs2 hs1 wc (HSO2.out.keep hbc) (HSO1b.out.keep hbc) HEQ.out)
     have HBC := Lib.hid (below_step HBB.out hbc)
     clear hbc
     go_wp2_with fail
     refine (TO.out).mono ?_
     rintro e' wd ⟨rfl, hbd⟩
     have HBD := Lib.hid (below_step HBC.out hbd)
     clear hbd
     go_wp2_with fail
     go_ret
     exact ⟨rfl, HBD.out⟩
 have d1 : decide (300 < m) = false := decide_eq_false hm3
 have d1' : decide (300 < (m : Int)) = false := decide_eq_false (by omega)
 have hm300 : m ≤ 300 := by omega
 clear hm3
 by_cases hn1 : n < 1
 ·have d2 : decide (n < 1) = true := decide_eq_true hn1
  have HWHY := Lib.hid (show Why hs cols n m 1 from Or.inr ⟨rfl, hm300, Or.inl hn1⟩)
  go_enter Tryd.func3, Tryd.ntmps3
  go_wp2_with fail
  go_loopw [11, 13] (fun e i wx => ∃ q : Nat, q ≤ m ∧ i = .int .i64 q ∧ e = .int .i64 1 ∧ Below w.heap.size w wx) (fun _ i _ => m - (intOf i).toNat)
  case atStart => exact ⟨0, Nat.zero_le _, rfl, rfl, Below.refl _ _⟩
  case round =>
   obtain ⟨q, hq, rfl, rfl, hb⟩ := hrel
   have HB := Lib.hid hb
   clear hb
   by_cases hqm : q < m
   ·obtain ⟨g, o, x, pk, pe, rfl, hx, c1, hg, hpe, hpk, hT, hP⟩ := HROW.out wr HB.out q hqm
    have HTR := Lib.hid hT
    have HTP := Lib.hid hP
    have pp : (pk != pk) = false := by simp
    clear hT hP hx hpe hpk
    go_wp2_with fail
    refine (HTR.out).mono ?_
    rintro e' w2 ⟨rfl, hb2⟩
    have HB2 := Lib.hid (below_step HB.out hb2)
    have HB02 := Lib.hid hb2
    have c1 := (hb2.cell (p := ⟨g, o + q, none⟩) hg).trans c1
    clear hb2
    by_cases h20 : q < 20
    ·have d20 : decide (q < 20) = true := decide_eq_true h20
     have d20' : decide ((q : Int) < 20) = true := decide_eq_true (by omega)
     clear h20
     go_wp2_with fail
     refine (HTP.out _ HB02.out).mono ?_
     rintro e' w3 ⟨rfl, hb3⟩
     have HB3 := Lib.hid (below_step HB2.out hb3)
     clear hb3
     go_wp2_with fail
     refine (TSE.out pe w3 HB3.out).mono ?_
     rintro e' w4 ⟨rfl, hb4⟩
     have HB4 := Lib.hid (below_step HB3.out hb4)
     clear hb4
     go_wp2_with fail
     go_roundw
     case rel => exact ⟨q + 1, by omega, by go_num, rfl, HB4.out⟩
     case measure => simp [intOf]; omega
    ·have d20 : decide (q < 20) = false := decide_eq_false h20
     have d20' : decide ((q : Int) < 20) = false := decide_eq_false (by omega)
     clear h20
     go_wp2_with fail
     go_roundw
     case rel => exact ⟨q + 1, by omega, by go_num, rfl, HB2.out⟩
     case measure => simp [intOf]; omega
   ·obtain rfl : q = m := by omega
    go_wp2_with fail
    refine (TPA.out wr HB.out).mono ?_
    rintro e' w5 hps
    obtain ⟨rfl, hb5⟩ := why_parts HWHY.out hps
    have HB5 := Lib.hid (below_step HB.out hb5)
    clear hps hb5
    go_wp2_with fail
    refine (TSE.out 1 w5 HB5.out).mono ?_
    rintro e' w6 ⟨rfl, hb6⟩
    have HB6 := Lib.hid (below_step HB5.out hb6)
    clear hb6
    go_wp2_with fail
    go_loopw [22] (fun i wx => i = .int .i64 0 ∧ Below w6.heap.size w6 wx) (fun _ _ => 0)
    case atStart => exact ⟨rfl, Below.refl _ _⟩
    case round =>
     obtain ⟨rfl, hb7⟩ := hrel
     have HB7 := Lib.hid (below_step HB6.out hb7)
     clear hb7
     go_wp2_with fail
     refine (TJ.out wr HB7.out).mono ?_
     rintro e' wa ⟨A1, n1, c1, hs1, rfl, hso1, hj1, hn1, hba⟩
     have HBA := Lib.hid (below_step HB7.out hba)
     have HSO1 := Lib.hid hso1
     have HJ1 := Lib.hid (And.intro hj1 hn1)
     clear hso1 hj1 hn1 hba
     unfold intV
     obtain ⟨je, hje⟩ : ∃ je, joinErr G (outsOf ls) = je := ⟨_, rfl⟩
     have HJE := Lib.hid hje
     rw [hje]
     clear hje
     go_wp2_with fail
     refine (TP.out wa HBA.out).mono ?_
     rintro e' wb ⟨A2, n2, c2, hs2, rfl, hso2, hj2, hn2, hbb⟩
     rw [HJE.out]
     have HEQ := Lib.hid (res_same hj2 hn2 HJ1.out.1 HJ1.out.2)
     have hnn : n2 = n1 := by
      have h1 := HSO1.out.len
      have h2 := hso2.len
      have h3 := congrArg List.length HEQ.out
      rw [List.length_map, List.length_map] at h3
      omega
     subst hnn
     have HSO1b := Lib.hid (HSO1.out.keep hbb)
     have HSO2 := Lib.hid hso2
     have HBB := Lib.hid (below_step HBA.out hbb)
     clear hso2 hj2 hn2 hbb
     go_wp2_with fail
     refine (TSE.out je wb HBB.out).mono ?_
     rintro e' wc ⟨rfl, hbc⟩
     have TO := Lib.hid (sameOuts_any A2 A1 n2 c2 c1 hs2 hs1 wc (HSO2.out.keep hbc) (HSO1b.out.keep hbc) HEQ.out)
     have HBC := Lib.hid (below_step HBB.out hbc)
     clear hbc
     go_wp2_with fail
     refine (TO.out).mono ?_
     rintro e' wd ⟨rfl, hbd⟩
     have HBD := Lib.hid (below_step HBC.out hbd)
     clear hbd
     go_wp2_with fail
     go_ret
     exact ⟨rfl, HBD.out⟩
 have d2 : decide (n < 1) = false := decide_eq_false hn1
 by_cases hn8 : 8 < n
 ·have d3 : decide (8 < n) = true := decide_eq_true hn8
  have HWHY := Lib.hid (show Why hs cols n m 1 from Or.inr ⟨rfl, hm300, Or.inr (Or.inl hn8)⟩)
  go_enter Tryd.func3, Tryd.ntmps3
  go_wp2_with fail
  go_loopw [11, 13] (fun e i wx => ∃ q : Nat, q ≤ m ∧ i = .int .i64 q ∧ e = .int .i64 1 ∧ Below w.heap.size w wx) (fun _ i _ => m - (intOf i).toNat)
  case atStart => exact ⟨0, Nat.zero_le _, rfl, rfl, Below.refl _ _⟩
  case round =>
   obtain ⟨q, hq, rfl, rfl, hb⟩ := hrel
   have HB := Lib.hid hb
   clear hb
   by_cases hqm : q < m
   ·obtain ⟨g, o, x, pk, pe, rfl, hx, c1, hg, hpe, hpk, hT, hP⟩ := HROW.out wr HB.out q hqm
    have HTR := Lib.hid hT
    have HTP := Lib.hid hP
    have pp : (pk != pk) = false := by simp
    clear hT hP hx hpe hpk
    go_wp2_with fail
    refine (HTR.out).mono ?_
    rintro e' w2 ⟨rfl, hb2⟩
    have HB2 := Lib.hid (below_step HB.out hb2)
    have HB02 := Lib.hid hb2
    have c1 := (hb2.cell (p := ⟨g, o + q, none⟩) hg).trans c1
    clear hb2
    by_cases h20 : q < 20
    ·have d20 : decide (q < 20) = true := decide_eq_true h20
     have d20' : decide ((q : Int) < 20) = true := decide_eq_true (by omega)
     clear h20
     go_wp2_with fail
     refine (HTP.out _ HB02.out).mono ?_
     rintro e' w3 ⟨rfl, hb3⟩
     have HB3 := Lib.hid (below_step HB2.out hb3)
     clear hb3
     go_wp2_with fail
     refine (TSE.out pe w3 HB3.out).mono ?_
     rintro e' w4 ⟨rfl, hb4⟩
     have HB4 := Lib.hid (below_step HB3.out hb4)
     clear hb4
     go_wp2_with fail
     go_roundw
     case rel => exact ⟨q + 1, by omega, by go_num, rfl, HB4.out⟩
     case measure => simp [intOf]; omega
    ·have d20 : decide (q < 20) = false := decide_eq_false h20
     have d20' : decide ((q : Int) < 20) = false := decide_eq_false (by omega)
     clear h20
     go_wp2_with fail
     go_roundw
     case rel => exact ⟨q + 1, by omega, by go_num, rfl, HB2.out⟩
     case measure => simp [intOf]; omega
   ·obtain rfl : q = m := by omega
    go_wp2_with fail
    refine (TPA.out wr HB.out).mono ?_
    rintro e' w5 hps
    obtain ⟨rfl, hb5⟩ := why_parts HWHY.out hps
    have HB5 := Lib.hid (below_step HB.out hb5)
    clear hps hb5
    go_wp2_with fail
    refine (TSE.out 1 w5 HB5.out).mono ?_
    rintro e' w6 ⟨rfl, hb6⟩
    have HB6 := Lib.hid (below_step HB5.out hb6)
    clear hb6
    go_wp2_with fail
    go_loopw [22] (fun i wx => i = .int .i64 0 ∧ Below w6.heap.size w6 wx) (fun _ _ => 0)
    case atStart => exact ⟨rfl, Below.refl _ _⟩
    case round =>
     obtain ⟨rfl, hb7⟩ := hrel
     have HB7 := Lib.hid (below_step HB6.out hb7)
     clear hb7
     go_wp2_with fail
     refine (TJ.out wr HB7.out).mono ?_
     rintro e' wa ⟨A1, n1, c1, hs1, rfl, hso1, hj1, hn1, hba⟩
     have HBA := Lib.hid (below_step HB7.out hba)
     have HSO1 := Lib.hid hso1
     have HJ1 := Lib.hid (And.intro hj1 hn1)
     clear hso1 hj1 hn1 hba
     unfold intV
     obtain ⟨je, hje⟩ : ∃ je, joinErr G (outsOf ls) = je := ⟨_, rfl⟩
     have HJE := Lib.hid hje
     rw [hje]
     clear hje
     go_wp2_with fail
     refine (TP.out wa HBA.out).mono ?_
     rintro e' wb ⟨A2, n2, c2, hs2, rfl, hso2, hj2, hn2, hbb⟩
     rw [HJE.out]
     have HEQ := Lib.hid (res_same hj2 hn2 HJ1.out.1 HJ1.out.2)
     have hnn : n2 = n1 := by
      have h1 := HSO1.out.len
      have h2 := hso2.len
      have h3 := congrArg List.length HEQ.out
      rw [List.length_map, List.length_map] at h3
      omega
     subst hnn
     have HSO1b := Lib.hid (HSO1.out.keep hbb)
     have HSO2 := Lib.hid hso2
     have HBB := Lib.hid (below_step HBA.out hbb)
     clear hso2 hj2 hn2 hbb
     go_wp2_with fail
     refine (TSE.out je wb HBB.out).mono ?_
     rintro e' wc ⟨rfl, hbc⟩
     have TO := Lib.hid (sameOuts_any A2 A1 n2 c2 c1 hs2 hs1 wc (HSO2.out.keep hbc) (HSO1b.out.keep hbc) HEQ.out)
     have HBC := Lib.hid (below_step HBB.out hbc)
     clear hbc
     go_wp2_with fail
     refine (TO.out).mono ?_
     rintro e' wd ⟨rfl, hbd⟩
     have HBD := Lib.hid (below_step HBC.out hbd)
     clear hbd
     go_wp2_with fail
     go_ret
     exact ⟨rfl, HBD.out⟩
 have d3 : decide (8 < n) = false := decide_eq_false hn8
 obtain ⟨N, rfl⟩ : ∃ N : Nat, n = N := ⟨n.toNat, by omega⟩
 have hN1 : 1 ≤ N := by omega
 have hN8 : N ≤ 8 := by omega
 obtain ⟨ht, _, _, hzs, i0, hi, hz, hsz, hby⟩ := listSlice
 obtain ⟨w0, hmk, hown0, hg0⟩ := run_makeSlice_full (P := Tryd.prog) w w.heap.size 25 23 i0 (.slice none 0 0) 1 ht hi hz hsz .i64 .i64 N (by omega) (by rw [hby]; omega) (by unfold maxLen; omega) (Nat.le_refl _)
 have hb0 : Below w.heap.size w w0 := (Below.refl w.heap.size w).grown hg0 (Nat.le_refl _) (fun k hk => by cases hk)
 have L0 : Lists w0 w.heap.size w.heap.size N (fun _ => .slice none 0 0) (partList (pfOf hs cols N) 0) := by
  refine ⟨?_, fun j _ => World.ownsRow_nil _ _ _ _, fun j _ => by simp [Value.ownBlock], fun i j _ _ _ => Or.inl rfl⟩
  have e : (madeCells (Value.slice none 0 0).cells (N * 1)).toList = (List.range N).map fun _ => Value.slice none 0 0 := by
   rw [Nat.mul_one]
   apply List.ext_getElem?
   intro q
   by_cases hq : q < N
   ·rw [List.getElem?_map, List.getElem?_range hq, Array.getElem?_toList]
    unfold madeCells
    rw [Array.getElem?_map, Array.getElem?_range]
    simp [hq, Value.cells, Nat.mod_one]
   ·rw [List.getElem?_eq_none (by rw [Array.length_toList, size_madeCells]; omega), List.getElem?_eq_none (by simp; omega)]
  rw [e] at hown0
  exact hown0
 have HL0 := Lib.hid L0
 have HB0 := Lib.hid hb0
 clear hown0 hg0 L0 hb0 ht hi hz hsz hby hzs hn1 hn8
 go_enter Tryd.func3, Tryd.ntmps3
 go_wp2_with fail
 clear hmk
 go_loopw [11, 13] (fun e i wx => ∃ q : Nat, q ≤ m ∧ i = .int .i64 q ∧ Below w.heap.size w wx ∧ ((e = .int .i64 0 ∧ (∃ vals, Lists wx w.heap.size w.heap.size N vals (partList (pfOf hs cols N) q)) ∧ ∀ h ∈ hs.take q, cols.any (badCol h.n) = false) ∨
   (e = .int .i64 1 ∧ ∃ h ∈ hs, cols.any (badCol h.n) = true))) (fun _ i _ => m - (intOf i).toNat)
 case atStart => exact ⟨0, Nat.zero_le _, rfl, HB0.out, Or.inl ⟨rfl, ⟨_, HL0.out⟩, by simp⟩⟩
 case round =>
  obtain ⟨q, hq, rfl, hb, hst⟩ := hrel
  have HB := Lib.hid hb
  clear hb
  by_cases hqm : q < m
  ·rcases hst with ⟨rfl, ⟨vals, hl⟩, hno⟩ | ⟨rfl, hbad⟩
   ·obtain ⟨g, o, x, pk, pe, rfl, hx, c1, hg, hpe, hpk, hT, -⟩ := HROW.out wr HB.out q hqm
    have HX := Lib.hid hx
    have HTR := Lib.hid hT
    have HL := Lib.hid hl
    have HNO := Lib.hid hno
    have HX2 := Lib.hid (fun w' (hb' : Below w.heap.size w w') => show w'.cell? ⟨g, o + q, none⟩ = some (.slice x.R x.n x.c) ∧ Calls Tryd.prog 5 #[.slice x.R x.n x.c, .slice C k ck, .int .i64 (N : Nat)] w' (fun e w2 => e = .returned (.tuple #[.int .i64 pk, errV pe]) ∧ Below w'.heap.size w' w2) by
     obtain ⟨g', o', x', pk', pe', e', hx', c1', -, hpe', hpk', -, hP'⟩ := HROW.out w' hb' q hqm
     cases e'
     obtain rfl : x' = x := by rw [hx] at hx'; exact (Option.some.inj hx').symm
     rw [hpe] at hpe' hpk'
     rw [hpe] at hpk
     subst hpe'
     rw [← hpk'] at *
     rw [hpk] at hP'
     exact ⟨c1', hP' w' (Below.refl _ _)⟩)
    have pp : (pk != pk) = false := by simp
    have HPF := Lib.hid (show pfOf hs cols N q = partOf x.r cols N by unfold pfOf; rw [hx])
    have HTK := Lib.hid (show hs.take (q + 1) = hs.take q ++ [x] by rw [List.take_add_one, hx]; rfl)
    generalize hbd : cols.any (badCol x.n) = bd at *
    have HBD := Lib.hid hbd
    cases bd with
    | true =>
     obtain rfl : pe = 1 := by rw [← hpe]; unfold partErr; rw [if_neg (by omega), if_pos hbd]
     have HBX := Lib.hid (show ∃ h ∈ hs, cols.any (badCol h.n) = true from ⟨x, List.mem_of_getElem? hx, hbd⟩)
     clear hT hx hpe hpk hl hno hbd
     go_wp2_with fail
     refine (HTR.out).mono ?_
     rintro e' w2 ⟨rfl, hb2⟩
     have HB2 := Lib.hid (below_step HB.out hb2)
     clear hb2 c1
     obtain ⟨c1, hP⟩ := HX2.out w2 HB2.out
     have HTP := Lib.hid (fun (w3 : World) (_ : w3 = w2) => hP)
     clear hP
     by_cases h20 : q < 20
     ·have d20 : decide (q < 20) = true := decide_eq_true h20
      have d20' : decide ((q : Int) < 20) = true := decide_eq_true (by omega)
      clear h20
      go_wp2_with fail
      refine (HTP.out _ rfl).mono ?_
      rintro e' w3 ⟨rfl, hb3⟩
      have HB3 := Lib.hid (below_step HB2.out hb3)
      clear hb3
      go_wp2_with fail
      refine (TSE.out 1 w3 HB3.out).mono ?_
      rintro e' w4 ⟨rfl, hb4⟩
      have HB4 := Lib.hid (below_step HB3.out hb4)
      clear hb4
      go_wp2_with fail
      go_roundw
      case rel => exact ⟨q + 1, by omega, by go_num, HB4.out, Or.inr ⟨rfl, HBX.out⟩⟩
      case measure => simp [intOf]; omega
     ·have d20 : decide (q < 20) = false := decide_eq_false h20
      have d20' : decide ((q : Int) < 20) = false := decide_eq_false (by omega)
      clear h20
      go_wp2_with fail
      go_roundw
      case rel => exact ⟨q + 1, by omega, by go_num, HB2.out, Or.inr ⟨rfl, HBX.out⟩⟩
      case measure => simp [intOf]; omega
    | false =>
     obtain rfl : pe = 0 := by rw [← hpe]; unfold partErr; rw [if_neg (by omega), if_neg (by rw [hbd]; decide)]
     rw [hpe, if_pos rfl] at hpk
     have hpb := partOf_bound x.r cols (n := (N : Int)) (by omega)
     rw [hpk] at hpb
     obtain ⟨p, rfl⟩ : ∃ p : Nat, pk = p := ⟨pk.toNat, by omega⟩
     have hpN : p < N := by omega
     have HPN := Lib.hid (partList_next (HPF.out.trans hpk))
     have hle := partList_le (pfOf hs cols N) q p
     clear hT hx hpe hpk hl hno hbd hpb
     by_cases h20 : q < 20
     ·have d20 : decide (q < 20) = true := decide_eq_true h20
      have d20' : decide ((q : Int) < 20) = true := decide_eq_true (by omega)
      clear h20
      go_wp2_with fail
      refine (HTR.out).mono ?_
      rintro e' w2 ⟨rfl, hb2⟩
      have hl2 := HL.out.keep hb2
      have HB2 := Lib.hid (below_step HB.out hb2)
      have HL2 := Lib.hid hl2
      have co : w2.cell? ⟨w.heap.size, p, none⟩ = some (vals p) := by
       have := hl2.outer.cells (g := w.heap.size) rfl p (vals p) (by rw [List.getElem?_map, List.getElem?_range hpN]; rfl)
       rwa [addr_addN, Nat.zero_add] at this
      have hsz2 := HB2.out.size
      have hrow := hl2.rows p hpN
      clear hb2 hl2 c1
      go_upto_if 76 with (first
       | (at_builtin; refine wpList_append_one_at intSlice rfl _ _ rfl rfl rfl hrow hsz2 rfl (by intro u hu; simp at hu; subst hu; rfl) (by omega) ?_; intro v1 w4 hown4 hg4 hat4; obtain ⟨vA, vC, rfl⟩ := own_shape hown4; have HS4 := Lib.hid (parts_store HL2.out hpN hown4 hg4 hat4); obtain ⟨⟨cu4, cc4⟩, zz4, lt4⟩ := HS4.out.2.1; clear hown4 hg4 hat4))
      refine genW (R := fun wx => (∃ vals', Lists wx w.heap.size w.heap.size N vals' (partList (pfOf hs cols N) (q + 1))) ∧ Below w.heap.size w wx) ⟨⟨_, by rw [HPN.out]; exact HS4.out.1⟩, HS4.out.2.2 w HB2.out (Nat.le_refl _)⟩ ?_
      clear HS4 cc4 zz4 lt4 co hrow hsz2 HB2 HL2
      rintro w5 ⟨hl5, hb5⟩
      have HL5 := Lib.hid hl5
      have HB2 := Lib.hid hb5
      have HNN := Lib.hid (show ∀ h ∈ hs.take (q + 1), cols.any (badCol h.n) = false by
       rw [HTK.out]
       intro h hh
       rcases List.mem_append.1 hh with hh | hh
       ·exact HNO.out h hh
       ·obtain rfl : h = x := by simpa using hh
        exact HBD.out)
      clear hl5 hb5
      obtain ⟨c1, hP⟩ := HX2.out w5 HB2.out
      have HTP := Lib.hid hP
      clear hP
      go_wp2_with fail
      refine (HTP.out).mono ?_
      rintro e' w3 ⟨rfl, hb3⟩
      have HB3 := Lib.hid (below_step HB2.out hb3)
      have HL3 := Lib.hid (show ∃ vals', Lists w3 w.heap.size w.heap.size N vals' (partList (pfOf hs cols N) (q + 1)) by obtain ⟨v9, h9⟩ := HL5.out; exact ⟨v9, h9.keep hb3⟩)
      clear hb3
      go_wp2_with fail
      refine (TSE.out 0 w3 HB3.out).mono ?_
      rintro e' w6 ⟨rfl, hb6⟩
      have HB6 := Lib.hid (below_step HB3.out hb6)
      have HL6 := Lib.hid (show ∃ vals', Lists w6 w.heap.size w.heap.size N vals' (partList (pfOf hs cols N) (q + 1)) by obtain ⟨v9, h9⟩ := HL3.out; exact ⟨v9, h9.keep hb6⟩)
      clear hb6
      go_wp2_with fail
      go_roundw
      case rel => exact ⟨q + 1, by omega, by go_num, HB6.out, Or.inl ⟨rfl, HL6.out, HNN.out⟩⟩
      case measure => simp [intOf]; omega
     ·have d20 : decide (q < 20) = false := decide_eq_false h20
      have d20' : decide ((q : Int) < 20) = false := decide_eq_false (by omega)
      clear h20
      go_wp2_with fail
      refine (HTR.out).mono ?_
      rintro e' w2 ⟨rfl, hb2⟩
      have hl2 := HL.out.keep hb2
      have HB2 := Lib.hid (below_step HB.out hb2)
      have HL2 := Lib.hid hl2
      have co : w2.cell? ⟨w.heap.size, p, none⟩ = some (vals p) := by
       have := hl2.outer.cells (g := w.heap.size) rfl p (vals p) (by rw [List.getElem?_map, List.getElem?_range hpN]; rfl)
       rwa [addr_addN, Nat.zero_add] at this
      have hsz2 := HB2.out.size
      have hrow := hl2.rows p hpN
      clear hb2 hl2 c1
      go_upto_if 76 with (first
       | (at_builtin; refine wpList_append_one_at intSlice rfl _ _ rfl rfl rfl hrow hsz2 rfl (by intro u hu; simp at hu; subst hu; rfl) (by omega) ?_; intro v1 w4 hown4 hg4 hat4; obtain ⟨vA, vC, rfl⟩ := own_shape hown4; have HS4 := Lib.hid (parts_store HL2.out hpN hown4 hg4 hat4); obtain ⟨⟨cu4, cc4⟩, zz4, lt4⟩ := HS4.out.2.1; clear hown4 hg4 hat4))
      refine genW (R := fun wx => (∃ vals', Lists wx w.heap.size w.heap.size N vals' (partList (pfOf hs cols N) (q + 1))) ∧ Below w.heap.size w wx) ⟨⟨_, by rw [HPN.out]; exact HS4.out.1⟩, HS4.out.2.2 w HB2.out (Nat.le_refl _)⟩ ?_
      clear HS4 cc4 zz4 lt4 co hrow hsz2 HB2 HL2
      rintro w5 ⟨hl5, hb5⟩
      have HL5 := Lib.hid hl5
      have HB2 := Lib.hid hb5
      have HNN := Lib.hid (show ∀ h ∈ hs.take (q + 1), cols.any (badCol h.n) = false by
       rw [HTK.out]
       intro h hh
       rcases List.mem_append.1 hh with hh | hh
       ·exact HNO.out h hh
       ·obtain rfl : h = x := by simpa using hh
        exact HBD.out)
      clear hl5 hb5
      obtain ⟨c1, hP⟩ := HX2.out w5 HB2.out
      have HTP := Lib.hid hP
      clear hP
      go_wp2_with fail
      go_roundw
      case rel => exact ⟨q + 1, by omega, by go_num, HB2.out, Or.inl ⟨rfl, HL5.out, HNN.out⟩⟩
      case measure => simp [intOf]; omega
   ·have HBX := Lib.hid hbad
    clear hbad
    obtain ⟨g, o, x, pk, pe, rfl, hx, c1, hg, hpe, hpk, hT, hP⟩ := HROW.out wr HB.out q hqm
    have HTR := Lib.hid hT
    have HTP := Lib.hid hP
    have pp : (pk != pk) = false := by simp
    clear hT hP hx hpe hpk
    go_wp2_with fail
    refine (HTR.out).mono ?_
    rintro e' w2 ⟨rfl, hb2⟩
    have HB2 := Lib.hid (below_step HB.out hb2)
    have HB02 := Lib.hid hb2
    have c1 := (hb2.cell (p := ⟨g, o + q, none⟩) hg).trans c1
    clear hb2
    by_cases h20 : q < 20
    ·have d20 : decide (q < 20) = true := decide_eq_true h20
     have d20' : decide ((q : Int) < 20) = true := decide_eq_true (by omega)
     clear h20
     go_wp2_with fail
     refine (HTP.out _ HB02.out).mono ?_
     rintro e' w3 ⟨rfl, hb3⟩
     have HB3 := Lib.hid (below_step HB2.out hb3)
     clear hb3
     go_wp2_with fail
     refine (TSE.out pe w3 HB3.out).mono ?_
     rintro e' w4 ⟨rfl, hb4⟩
     have HB4 := Lib.hid (below_step HB3.out hb4)
     clear hb4
     go_wp2_with fail
     go_roundw
     case rel => exact ⟨q + 1, by omega, by go_num, HB4.out, Or.inr ⟨rfl, HBX.out⟩⟩
     case measure => simp [intOf]; omega
    ·have d20 : decide (q < 20) = false := decide_eq_false h20
     have d20' : decide ((q : Int) < 20) = false := decide_eq_false (by omega)
     clear h20
     go_wp2_with fail
     go_roundw
     case rel => exact ⟨q + 1, by omega, by go_num, HB2.out, Or.inr ⟨rfl, HBX.out⟩⟩
     case measure => simp [intOf]; omega
  ·obtain rfl : q = m := by omega
   rcases hst with ⟨rfl, ⟨vals, hl⟩, hno⟩ | ⟨rfl, hbad⟩
   ·have HL := Lib.hid hl
    have HGD := Lib.hid (show ∀ h ∈ hs, cols.any (badCol h.n) = false by
     rw [List.take_of_length_le (by rw [HLn.out]; exact Nat.le_refl _)] at hno; exact hno)
    clear hl hno
    go_wp2_with fail
    refine (TPA.out wr HB.out).mono ?_
    rintro e' w5 ⟨hps, hb5⟩
    have HB5 := Lib.hid (below_step HB.out hb5)
    have HL5 := Lib.hid (HL.out.keep hb5)
    rcases hps with ⟨k9, hk9, -⟩ | ⟨-, -, -, -, g2, vals2, rfl, hl2⟩
    ·exfalso
     rcases hk9 with ⟨-, h⟩ | ⟨-, -, h | h | ⟨x, hx, hb⟩⟩
     ·omega
     ·omega
     ·omega
     ·rw [HGD.out x hx] at hb; cases hb
    rw [Int.toNat_natCast] at hl2 ⊢
    have HL2 := Lib.hid hl2
    have TE0 := Lib.hid (show Calls Tryd.prog 6 #[.nilIface, .int .i64 0] w5 (fun e w2 => e = .returned (.bool true) ∧ Below w5.heap.size w5 w2) from TSE.out 0 w5 HB5.out)
    clear hl2 hb5
    have dn : ((N : Int) != (N : Int)) = false := by simp
    go_wp2_with fail
    refine (TE0.out).mono ?_
    rintro e' w6 ⟨rfl, hb6⟩
    have HB6 := Lib.hid (below_step HB5.out hb6)
    have HL6 := Lib.hid (HL5.out.keep hb6)
    have HL26 := Lib.hid (HL2.out.keep hb6)
    clear hb6
    go_wp2_with fail
    go_loopw [22] (fun i wx => ∃ r : Nat, r ≤ N ∧ i = .int .i64 r ∧ Below w6.heap.size w6 wx) (fun i _ => N - (intOf i).toNat)
    case atStart => exact ⟨0, Nat.zero_le _, rfl, Below.refl _ _⟩
    case round =>
     obtain ⟨r, hr, rfl, hbr⟩ := hrel
     have HBR := Lib.hid hbr
     by_cases hrN : r < N
     ·obtain ⟨X1, x1, a0, s0⟩ := lists_cell (HL26.out.keep hbr) hrN
      obtain ⟨X2, x2, b0, s1⟩ := lists_cell (HL6.out.keep hbr) hrN
      have TI := Lib.hid (same_ints X1 X2 _ _ x1 x2 _ _ wr.drew (s0.keep ((Below.refl _ _).drew)) (s1.keep ((Below.refl _ _).drew)))
      rw [show decide (partList (pfOf hs cols N) q r = partList (pfOf hs cols N) q r) = true by simp] at TI
      have hg2 : g2 < wr.heap.size := World.block_lt_of_cell? wr _ a0
      have hg1 : w.heap.size < wr.heap.size := World.block_lt_of_cell? wr _ b0
      generalize (partList (pfOf hs cols N) q r).length = pn at *
      have KP := Lib.hid (fun wq (hq : Below wr.heap.size wr wq) => show wq.cell? ⟨g2, r, none⟩ = some (.slice X1 pn x1) ∧ wq.cell? ⟨w.heap.size, r, none⟩ = some (.slice X2 pn x2) from
       ⟨(hq.cell (p := ⟨g2, r, none⟩) hg2).trans a0, (hq.cell (p := ⟨w.heap.size, r, none⟩) hg1).trans b0⟩)
      have z1 : (0 : Int) ≤ (r : Int) := by omega
      have z2 : (r : Int) < (N : Int) := by omega
      have hbr0 : Below wr.heap.size wr wr.drew := (Below.refl _ _).drew
      have HBD := Lib.hid hbr0
      clear hbr hbr0 s0 s1
      go_wp2_with fail
      go_region_held3 (fun wq => wq.cell? ⟨g2, r, none⟩ = some (.slice X1 pn x1) ∧ wq.cell? ⟨w.heap.size, r, none⟩ = some (.slice X2 pn x2)) (first | exact KP.out _ (Below.refl _ _) | exact KP.out _ HBD.out | exact KP.out _ HB3.out) (first
       | (go_at_call 8; refine (TI.out).mono ?_; rintro e' w3 ⟨rfl, nq, rfl⟩; have HB3 := Lib.hid (show Below wr.heap.size wr (wr.drewN (1 + nq)) from below_drewN (Below.refl _ _) (1 + nq))))
      clear a0 b0
      go_wp2_with fail
      go_roundw
      case rel => exact ⟨r + 1, by omega, by go_num, below_step HBR.out HB3.out⟩
      case measure => simp [intOf]; omega
     ·obtain rfl : r = N := by omega
      have HB7 := Lib.hid (below_step HB6.out HBR.out)
      clear hbr
      go_wp2_with fail
      refine (TJ.out wr HB7.out).mono ?_
      rintro e' wa ⟨A1, n1, c1, hs1, rfl, hso1, hj1, hn1, hba⟩
      have HBA := Lib.hid (below_step HB7.out hba)
      have HSO1 := Lib.hid hso1
      have HJ1 := Lib.hid (And.intro hj1 hn1)
      clear hso1 hj1 hn1 hba
      unfold intV
      obtain ⟨je, hje⟩ : ∃ je, joinErr G (outsOf ls) = je := ⟨_, rfl⟩
      have HJE := Lib.hid hje
      rw [hje]
      clear hje
      go_wp2_with fail
      refine (TP.out wa HBA.out).mono ?_
      rintro e' wb ⟨A2, n2, c2, hs2, rfl, hso2, hj2, hn2, hbb⟩
      rw [HJE.out]
      have HEQ := Lib.hid (res_same hj2 hn2 HJ1.out.1 HJ1.out.2)
      have hnn : n2 = n1 := by
       have h1 := HSO1.out.len
       have h2 := hso2.len
       have h3 := congrArg List.length HEQ.out
       rw [List.length_map, List.length_map] at h3
       omega
      subst hnn
      have HSO1b := Lib.hid (HSO1.out.keep hbb)
      have HSO2 := Lib.hid hso2
      have HBB := Lib.hid (below_step HBA.out hbb)
      clear hso2 hj2 hn2 hbb
      go_wp2_with fail
      refine (TSE.out je wb HBB.out).mono ?_
      rintro e' wc ⟨rfl, hbc⟩
      have TO := Lib.hid (sameOuts_any A2 A1 n2 c2 c1 hs2 hs1 wc (HSO2.out.keep hbc) (HSO1b.out.keep hbc) HEQ.out)
      have HBC := Lib.hid (below_step HBB.out hbc)
      clear hbc
      go_wp2_with fail
      refine (TO.out).mono ?_
      rintro e' wd ⟨rfl, hbd⟩
      have HBD := Lib.hid (below_step HBC.out hbd)
      clear hbd
      go_wp2_with fail
      go_ret
      exact ⟨rfl, HBD.out⟩
   ·have HWHY := Lib.hid (show Why hs cols N q 1 from Or.inr ⟨rfl, hm300, Or.inr (Or.inr hbad)⟩)
    clear hbad
    go_wp2_with fail
    refine (TPA.out wr HB.out).mono ?_
    rintro e' w5 hps
    obtain ⟨rfl, hb5⟩ := why_parts HWHY.out hps
    have HB5 := Lib.hid (below_step HB.out hb5)
    clear hps hb5
    go_wp2_with fail
    refine (TSE.out 1 w5 HB5.out).mono ?_
    rintro e' w6 ⟨rfl, hb6⟩
    have HB6 := Lib.hid (below_step HB5.out hb6)
    clear hb6
    go_wp2_with fail
    go_loopw [22] (fun i wx => i = .int .i64 0 ∧ Below w6.heap.size w6 wx) (fun _ _ => 0)
    case atStart => exact ⟨rfl, Below.refl _ _⟩
    case round =>
     obtain ⟨rfl, hb7⟩ := hrel
     have HB7 := Lib.hid (below_step HB6.out hb7)
     clear hb7
     go_wp2_with fail
     refine (TJ.out wr HB7.out).mono ?_
     rintro e' wa ⟨A1, n1, c1, hs1, rfl, hso1, hj1, hn1, hba⟩
     have HBA := Lib.hid (below_step HB7.out hba)
     have HSO1 := Lib.hid hso1
     have HJ1 := Lib.hid (And.intro hj1 hn1)
     clear hso1 hj1 hn1 hba
     unfold intV
     obtain ⟨je, hje⟩ : ∃ je, joinErr G (outsOf ls) = je := ⟨_, rfl⟩
     have HJE := Lib.hid hje
     rw [hje]
     clear hje
     go_wp2_with fail
     refine (TP.out wa HBA.out).mono ?_
     rintro e' wb ⟨A2, n2, c2, hs2, rfl, hso2, hj2, hn2, hbb⟩
     rw [HJE.out]
     have HEQ := Lib.hid (res_same hj2 hn2 HJ1.out.1 HJ1.out.2)
     have hnn : n2 = n1 := by
      have h1 := HSO1.out.len
      have h2 := hso2.len
      have h3 := congrArg List.length HEQ.out
      rw [List.length_map, List.length_map] at h3
      omega
     subst hnn
     have HSO1b := Lib.hid (HSO1.out.keep hbb)
     have HSO2 := Lib.hid hso2
     have HBB := Lib.hid (below_step HBA.out hbb)
     clear hso2 hj2 hn2 hbb
     go_wp2_with fail
     refine (TSE.out je wb HBB.out).mono ?_
     rintro e' wc ⟨rfl, hbc⟩
     have TO := Lib.hid (sameOuts_any A2 A1 n2 c2 c1 hs2 hs1 wc (HSO2.out.keep hbc) (HSO1b.out.keep hbc) HEQ.out)
     have HBC := Lib.hid (below_step HBB.out hbc)
     clear hbc
     go_wp2_with fail
     refine (TO.out).mono ?_
     rintro e' wd ⟨rfl, hbd⟩
     have HBD := Lib.hid (below_step HBC.out hbd)
     clear hbd
     go_wp2_with fail
     go_ret
     exact ⟨rfl, HBD.out⟩
set_option maxRecDepth 100000 in
theorem contract (H : Type) (enc : TypeId × Value → H) (W : World) (base : Nat) (args : Array Value) (ds gs : List (DataW H)) (before : List MemPlace)
  (hval : ∀ (j : Nat) t v, Tryd.f3.params[j]? = some t → args[j]? = some v → Value.okWide Tryd.prog W .any base t v)
  (hW : DataW.Whole enc Tryd.prog Tryd.f3.params.toList Rows.splitTellsSpec.vars false W args.toList ds gs before)
  (hsz : (DataW.weightsEach Tryd.prog (Tryd.f3.params.toList ++ (Rows.OpenSpec.upto Rows.splitTellsSpec).bare.plain.varTypes Tryd.prog) (ds ++ gs)).all (· ≤ reachBytes) = true) (hL : laidMetH Tryd.prog Rows.splitTellsUptoRow.laid W) (hk : Rows.uptoSmall H (ds ++ gs) = true) :
  Calls Tryd.prog 3 args W fun e W' => ∃ v, e = .returned v ∧ Rows.splitTellsSpec.post enc Tryd.prog Tryd.f3 false true false false W args v W' := by
 have hW' := hW
 obtain ⟨p, q, hA0, hV, rfl, hfz, hnd⟩ := hW
 have hA : DataW.TrodAll enc Tryd.prog W 0 (fun _ => true) true Tryd.f3.params.toList args.toList ds p := hA0
 rw [Tryd.params3] at hA hval
 obtain ⟨v0, vs0, d0, ds0, p0, q0, hargs, rfl, rfl, h0, r0⟩ := trodAll_cons hA
 obtain ⟨v1, vs1, d1, ds1, p1, q1, rfl, rfl, rfl, h1, r1⟩ := trodAll_cons r0
 obtain ⟨v2, vs2, d2, ds2, p2, q2, rfl, rfl, rfl, h2, r2⟩ := trodAll_cons r1
 obtain ⟨v3, vs3, d3, ds3, p3, q3, rfl, rfl, rfl, h3, r3⟩ := trodAll_cons r2
 obtain ⟨v4, vs4, d4, ds4, p4, q4, rfl, rfl, rfl, h4, r4⟩ := trodAll_cons r3
 obtain ⟨rfl, rfl, rfl⟩ := trodAll_nil r4
 obtain rfl : args = #[v0, v1, v2, v3, v4] := by cases args; simp_all
 obtain ⟨rfl, rfl⟩ := trodVars_none hV
 have hv0 := hval 0 22 v0 rfl rfl
 have hv1 := hval 1 23 v1 rfl rfl
 obtain ⟨a2, rfl, rfl, rfl, w2⟩ := open_int Tryd.underlying3 (hval 2 3 v2 rfl rfl) h2
 have hv3 := hval 3 24 v3 rfl rfl
 obtain ⟨a4, rfl, rfl, rfl, w4⟩ := open_int Tryd.underlying3 (hval 4 3 v4 rfl rfl) h4
 obtain ⟨A, m, c, hs, rfl, hR, hw⟩ := open_rows (okWide_slice Tryd.underlying22 hv0) h0
 obtain ⟨C, k, ck, cols, rfl, hC, _⟩ := open_ints (okWide_slice Tryd.underlying23 hv1) h1
 obtain ⟨D, dc, ls, rfl, hD, hwo, hm, hl, hr⟩ := open_outs (okWide_slice Tryd.underlying24 hv3) h3
 have hbk : Rows.uptoBulkAll _ ≤ 1048576 := of_decide_eq_true hk
 have hbd : Rows.uptoBulk d3 ≤ 1048576 := by simp only [List.append_nil, Rows.uptoBulkAll] at hbk; omega
 refine (walk A C D m c k ck dc a2 a4 hs cols ls W (errT_of_laid hL) hR hw hC hD (Nat.le_trans hm hbd) (fun l h => Nat.le_trans (hl l h) hbd) (fun l h => Nat.le_trans (hr l h) hbd) hwo).mono fun e W' ⟨he, hb⟩ => ?_
 subst he
 exact ⟨_, rfl, law_post laidOut Tryd.underlying4 (by kernel_rfl) rfl (by rw [Tryd.params3]; intro t ht; simp only [List.mem_cons, List.not_mem_nil, or_false] at ht; rcases ht with rfl | rfl | rfl | rfl | rfl; all_goals exact ⟨by kernel_rfl, of_decide_eq_true (by kernel_rfl)⟩) hW' rfl hb⟩
theorem reads (os : Os) {H : Type} (enc : TypeId × Value → H) : ∃ places, DataW.whole enc Tryd.prog ((laidWorld_err os).forCall (fun _ _ => 0) ⟨#[], #[.slice none 0 0, .slice none 0 0, .int .i64 0, .slice none 0 0, .int .i64 0], []⟩).memory Tryd.f3.params.toList Rows.splitTellsSpec.vars false (#[.slice none 0 0, .slice none 0 0, .int .i64 0, .slice none 0 0, .int .i64 0] : Array Value).toList 8 = some ([.nil, .nil, .lit (.int .i64 0), .nil, .lit (.int .i64 0)], [], places) :=
 ⟨[], by kernel_rfl⟩
set_option maxRecDepth 100000 in
theorem lifted (os : Os) (started : os.Started) (H : Type) (enc : TypeId × Value → H) (F : Stop.Interp) :
  ReturnsInHanded {} Tryd.checked os 3 .any ((Rows.OpenSpec.upto Rows.splitTellsSpec).preRow enc Tryd.prog Tryd.f3 Rows.splitTellsUptoRow.domain false Rows.splitTellsUptoRow.laid) (((Rows.OpenSpec.upto Rows.splitTellsSpec).at F).post enc Tryd.prog Tryd.f3 false true false false) := by
 obtain ⟨places, hx⟩ := reads os enc
 refine returnsInHanded_of_row (C := Tryd.checked) (s := Rows.OpenSpec.upto Rows.splitTellsSpec) own started (by kernel_rfl) Tryd.func3
  (witness_row_at (enc := enc) (C := Tryd.checked) false (laidWorld_err os) #[.slice none 0 0, .slice none 0 0, .int .i64 0, .slice none 0 0, .int .i64 0] rfl (by kernel_rfl) (by kernel_rfl) (by kernel_rfl)
   (OpenSpec.preRow_of_cond 8 hx (by kernel_rfl) (fun k hk => by cases hk; kernel_rfl) (by kernel_rfl) (laid_met_err os _))) ?_
 intro W base args ds gs before hval hW _ hcond hsz hL _ _
 exact contract H enc W base args ds gs before hval hW hsz hL (hcond _ rfl)
theorem said : Rows.SplitTellsUptoSaid :=
 OpenClaim.holds_of_cond 3 Tryd.f3 rfl rfl rfl rfl rfl rfl rfl ⟨rfl, rfl, rfl, rfl, rfl⟩ rfl rfl rfl rfl rfl (by kernel_rfl) Tryd.func3 (by kernel_rfl)
  (of_decide_eq_true (by kernel_rfl)) (by unfold Func.isWrapper; first | (rw [if_pos (by decide +kernel)]; kernel_rfl) | (rw [if_neg (by decide +kernel)]; exact ⟨rfl, rfl⟩))
  (fun os started H enc _ F => by rw [OpenClaim.pre_eq_preRow]; exact lifted os started H enc F)
theorem plain (f : FuncId) (fn : Func) (hf : Tryd.pinned.checked.prog.funcNamed "sluicebook/sluicelaw3.SplitTells" = some f) (hfn : Tryd.pinned.checked.prog.funcs[f]? = some fn) :
  true = Tryd.pinned.checked.prog.looks [] ∧ ∀ (j : Nat) t, fn.params[j]? = some t → Tryd.pinned.checked.prog.wantsStandIn t = false := by
 obtain rfl : f = 3 := Option.some.inj ((show Tryd.prog.funcNamed "sluicebook/sluicelaw3.SplitTells" = some 3 by kernel_rfl).symm.trans hf) |>.symm
 obtain rfl : fn = Tryd.f3 := (Option.some.inj (Tryd.func3.symm.trans hfn)).symm
 refine ⟨by kernel_rfl, fun j t ht => ?_⟩
 rw [Tryd.params3] at ht
 have hm := Array.mem_of_getElem? ht
 simp only [List.mem_toArray, List.mem_cons, List.not_mem_nil, or_false] at hm
 rcases hm with rfl | rfl | rfl | rfl | rfl
 ·exact (show Tryd.prog.wantsStandIn 22 = false by kernel_rfl)
 ·exact (show Tryd.prog.wantsStandIn 23 = false by kernel_rfl)
 ·exact (show Tryd.prog.wantsStandIn 3 = false by kernel_rfl)
 ·exact (show Tryd.prog.wantsStandIn 24 = false by kernel_rfl)
 ·exact (show Tryd.prog.wantsStandIn 3 = false by kernel_rfl)
theorem card : Rows.SplitTellsUptoCardSaid :=
 Claim7.holds_tied_plain_at .later [] _ _ _ _ said (fun _ h => by cases h) (by kernel_rfl) (fun _ h => by cases h) splitTellsUpto_row_tie rfl ⟨rfl, rfl⟩ (by kernel_rfl) rfl plain (by kernel_rfl)
#print axioms card
end Go.Proofs.YtkgdfccpkiglaaaDoor.splitTells
