/- code.push, code.instr, slices.Grow and slices.Concat of instructions, code.either: walked. -/
import Derived.Test.YthmbafkedgahaaaDoorVmTop
import Derived.Test.YthmbafkedgahaaaDoorCodeLaw
import Derived.Lib.AppendZerosOnto
import Derived.Lib.SliceRun
namespace Go.Proofs.YthmbafkedgahaaaDoor
open Go.ChangeShapes Go.WideShapes Go.ChangeAt Go.RowKit

theorem own_low {w : World} {B C e size n : Nat} {v : Value} {xs : List Value} (h : w.ownsRow B e size v n xs) (hC : C ≤ B) : w.ownsRow C e size v n xs := by
  refine ⟨h.1, ?_⟩
  rcases h.2 with hn | ⟨g, cap, cur, e1, hb, rest⟩
  · exact .inl hn
  · exact .inr ⟨g, cap, cur, e1, Nat.le_trans hC hb, rest⟩
theorem insSlice : SliceTy Tryd.prog 31 39 (.agg #[.int .i64 0, .int .i64 0, .int .i64 0, .int .i64 0, .string ⟨#[]⟩]) 5 48 := SliceTy.of Tryd.underlying31 (by kernel_rfl) rfl (by decide) (by decide)
theorem codesSlice : SliceTy Tryd.prog 130 31 (.slice none 0 0) 1 24 := SliceTy.of Tryd.underlying130 (by kernel_rfl) rfl (by decide) (by decide)
/-- A row of instructions of the call's own. -/
def CodeSays (l : List Ins) (w : World) (e : Ending) (w' : World) : Prop := ∃ g c, e = .returned (.slice (some ⟨g, 0, none⟩) l.length c) ∧ w'.ownsRow w.heap.size 39 5 (.slice (some ⟨g, 0, none⟩) l.length c) l.length (codeCells l) ∧ Below w.heap.size w w'
theorem code_own {w : World} {B n c : Nat} {A : Option Addr} {l : List Ins} (h : w.ownsRow B 39 5 (.slice A n c) l.length (codeCells l)) : SeesCode w A n c l := by
  obtain ⟨A', c', e, hs⟩ := Sees.of_own h
  injection e with e1 e2 e3
  subst e1 e2 e3
  exact ⟨rfl, hs⟩
theorem code_new1 (w : World) (x : Ins) (B : Nat) (hB : B ≤ w.heap.size) : (w.alloc (.cells #[.int .i64 x.what, .int .i64 x.arg, .int .i64 x.val.type, .int .i64 x.val.n, .string x.val.s] 39)).ownsRow B 39 5 (.slice (some ⟨w.heap.size, 0, none⟩) 1 1) 1 (codeCells [x]) :=
  ⟨rfl, Or.inr ⟨w.heap.size, 1, _, rfl, hB, heap_alloc_new w _, Nat.le_refl _, by unfold maxLen; decide, rfl, rfl⟩⟩
set_option maxHeartbeats 1000000 in
theorem push_code (v : Val) (w : World) : Calls Tryd.prog 70 #[.agg #[.int .i64 v.type, .int .i64 v.n, .string v.s]] w (CodeSays [pushI v] w) := by
  obtain ⟨w1, hw1⟩ : ∃ w1, w.alloc (.cells #[.int .i64 v.type, .int .i64 v.n, .string v.s] 23) = w1 := ⟨_, rfl⟩
  have hb1 : Below w.heap.size w w1 := by rw [← hw1]; exact belowNew _ _
  have hbx := heap_alloc_new w (.cells #[.int .i64 v.type, .int .i64 v.n, .string v.s] 23)
  rw [hw1] at hbx
  obtain ⟨v0, v1, v2⟩ := box3 hbx
  obtain ⟨w2, hw2⟩ : ∃ w2, w1.alloc (.cells #[.int .i64 1, .int .i64 0, .int .i64 v.type, .int .i64 v.n, .string v.s] 39) = w2 := ⟨_, rfl⟩
  have HB := Lib.hid (show Below w.heap.size w w2 by rw [← hw2]; exact below_step hb1 (belowNew _ _))
  have HO := Lib.hid (show w2.ownsRow w.heap.size 39 5 (.slice (some ⟨w1.heap.size, 0, none⟩) 1 1) 1 (codeCells [pushI v]) by rw [← hw2]; exact code_new1 w1 (pushI v) _ hb1.size)
  have HW1 := Lib.hid hw1
  have HW2 := Lib.hid hw2
  clear hw1 hw2 hb1 hbx
  go_enter Tryd.func70, Tryd.ntmps70
  go_wp2_with (first | rw [HW1.out] | rw [HW2.out])
  go_ret
  exact ⟨_, _, rfl, HO.out, HB.out⟩
set_option maxHeartbeats 1000000 in
theorem instr_code (a b : Int) (w : World) : Calls Tryd.prog 72 #[.int .i64 a, .int .i64 b] w (CodeSays [⟨a, b, noVal⟩] w) := by
  obtain ⟨w2, hw2⟩ : ∃ w2, w.alloc (.cells #[.int .i64 a, .int .i64 b, .int .i64 0, .int .i64 0, .string ⟨#[]⟩] 39) = w2 := ⟨_, rfl⟩
  have HB := Lib.hid (show Below w.heap.size w w2 by rw [← hw2]; exact belowNew _ _)
  have HO := Lib.hid (show w2.ownsRow w.heap.size 39 5 (.slice (some ⟨w.heap.size, 0, none⟩) 1 1) 1 (codeCells [⟨a, b, noVal⟩]) by rw [← hw2]; exact code_new1 w ⟨a, b, noVal⟩ _ (Nat.le_refl _))
  have HW2 := Lib.hid hw2
  clear hw2
  go_enter Tryd.func72, Tryd.ntmps72
  go_wp2_with (first | rw [HW2.out])
  go_ret
  exact ⟨_, _, rfl, HO.out, HB.out⟩
set_option maxHeartbeats 4000000 in
set_option maxRecDepth 100000 in
theorem grow_code (n : Nat) (h0 : 0 < n) (hn : n ≤ 1000000) (w : World) : Calls Tryd.prog 106 #[.slice none 0 0, .int .i64 n] w fun e w' => ∃ g c, e = .returned (.slice (some ⟨g, 0, none⟩) 0 c) ∧ w'.ownsRow w.heap.size 39 5 (.slice (some ⟨g, 0, none⟩) 0 c) 0 (codeCells []) ∧ Below w.heap.size w w' := by
  obtain ⟨ht, h2, h3, hzs, i, hi, hz, hsz, hby⟩ := insSlice
  have hold : (Builtin.firstCells i.size 0 (.slice none 0 0)).run Tryd.prog w.drew = .ok ([] : List Value).toArray w.drew := run_firstCells_none w.drew i.size 0 0 0
  have hfit := growslice_fits (need := n) (old := 0) (bytes := i.bytes) (by omega) (by rw [hby]; omega)
  have hrz := fun ty => Lib.run_append_grow_zeros w 31 3 ty 39 i _ .i64 .i64 ht Tryd.underlying3 hi hz none 0 0 [] hold n h0 (by omega) (by omega) (by omega) (by rw [hby]; omega) (by rw [Nat.zero_add]; exact hfit)
  rw [Nat.zero_add] at hrz
  have hGn := grownCap_ge w n 0 39
  have hGm := grownCap_le_maxLen w n 0 39 (by unfold maxLen; omega)
  obtain ⟨G, hG⟩ : ∃ G, G = grownCap w n 0 39 := ⟨_, rfl⟩
  rw [← hG] at hrz hGn hGm
  obtain ⟨cs, hcs⟩ : ∃ cs, cs = (([] : List Value).toArray ++ Builtin.zeroCells (Value.agg #[.int .i64 0, .int .i64 0, .int .i64 0, .int .i64 0, .string ⟨#[]⟩]).cells n ++ Builtin.zeroCells (Value.agg #[.int .i64 0, .int .i64 0, .int .i64 0, .int .i64 0, .string ⟨#[]⟩]).cells (G - n)) := ⟨_, rfl⟩
  have hsize : cs.size = G * 5 := by
    rw [hcs, Array.size_append, Array.size_append, size_zeroCells, size_zeroCells, show (Value.agg #[.int .i64 0, .int .i64 0, .int .i64 0, .int .i64 0, .string ⟨#[]⟩]).cells.size = 5 from rfl]
    simp only [List.size_toArray, List.length_nil]
    omega
  rw [← hcs] at hrz
  obtain ⟨w2, hw2⟩ : ∃ w2, w.drew.alloc (.cells cs 39) = w2 := ⟨_, rfl⟩
  have HB := Lib.hid (show Below w.heap.size w w2 by rw [← hw2]; exact ((Below.refl _ _).drew).alloc (Nat.le_refl _) _)
  have HO := Lib.hid (show w2.ownsRow w.heap.size 39 5 (.slice (some ⟨w.heap.size, 0, none⟩) 0 G) 0 (codeCells []) by
    rw [← hw2]
    exact ⟨rfl, Or.inr ⟨w.heap.size, G, cs, rfl, Nat.le_refl _, heap_alloc_new w.drew _, Nat.zero_le _, hGm, hsize, by simp [codeCells]⟩⟩)
  rw [hw2] at hrz
  clear hold hcs hG hw2 hsize hfit hi hz hsz hby hzs ht
  have k1 : ¬ ((n : Int) < 0) := by omega
  have k2 : (0 : Int) < (n : Int) := by omega
  unfold maxLen at hGm
  go_enter Tryd.func106, Tryd.ntmps106
  go_wp2_with (at_builtin; refine Lib.wpList_append_run _ rfl _ _ _ _ rfl _ _ rfl rfl _ _ (hrz _) ?_)
  all_goals (go_ret; exact ⟨_, _, rfl, HO.out, HB.out⟩)
structure CodeH where
  A : Option Addr
  n : Nat
  c : Nat
  l : List Ins
def codeHV (h : CodeH) : Value := .slice h.A h.n h.c
def allIns (hs : List CodeH) : List Ins := hs.flatMap (·.l)
theorem allIns_take {hs : List CodeH} {k : Nat} {h : CodeH} (hk : hs[k]? = some h) : allIns (hs.take (k + 1)) = allIns (hs.take k) ++ h.l := by
  unfold allIns
  rw [List.take_add_one, hk, List.flatMap_append]; simp
theorem allIns_le (hs : List CodeH) (k : Nat) : (allIns (hs.take k)).length ≤ (allIns hs).length := by
  have : allIns hs = allIns (hs.take k) ++ allIns (hs.drop k) := by unfold allIns; rw [← List.flatMap_append, List.take_append_drop]
  rw [this, List.length_append]; omega
theorem insCells_one (l : List Ins) : ∀ u ∈ codeCells l, u.oneCell' = true := by
  intro u hu
  unfold codeCells at hu
  obtain ⟨x, _, hx⟩ := List.mem_flatMap.1 hu
  unfold insCells at hx
  simp only [List.mem_cons, List.not_mem_nil, or_false] at hx
  rcases hx with rfl | rfl | rfl | rfl | rfl <;> rfl
theorem heads_at {w : World} {A : Option Addr} {m c k : Nat} {hs : List CodeH} (h : Sees w A m c 1 (hs.map codeHV)) (hk : k < m) : ∃ g o x, A = some ⟨g, o, none⟩ ∧ g < w.heap.size ∧ hs[k]? = some x ∧ w.cell? ⟨g, o + k, none⟩ = some (.slice x.A x.n x.c) := by
  have hl := h.1
  rw [List.length_map, Nat.mul_one] at hl
  obtain ⟨g, o, e, hg, hc⟩ := h.2.2.2.2 (by omega)
  have hx : hs[k]? = some (hs[k]'(by omega)) := List.getElem?_eq_getElem (by omega)
  refine ⟨g, o, hs[k]'(by omega), e, hg, hx, hc k _ (by rw [List.getElem?_map, hx]; rfl)⟩
set_option maxHeartbeats 4000000 in
set_option maxRecDepth 100000 in
theorem concat_code (hs : List CodeH) (A : Option Addr) (m c : Nat) (w : World) (hH : Sees w A m c 1 (hs.map codeHV)) (hS : ∀ h ∈ hs, SeesCode w h.A h.n h.c h.l ∧ 0 < h.n) (hm : 0 < m) (hL : (allIns hs).length ≤ 1000000) :
    Calls Tryd.prog 75 #[.slice A m c] w (CodeSays (allIns hs) w) := by
  have hmc := hH.2.1
  have hcm := hH.2.2.1
  unfold maxLen at hcm
  have hml : hs.length = m := by have := hH.1; simpa using this
  have HH := Lib.hid hH
  have HS := Lib.hid hS
  have HML := Lib.hid hml
  have HTK := Lib.hid (show allIns (hs.take m) = allIns hs by rw [List.take_of_length_le (by omega)])
  have hpos : 0 < (allIns hs).length := by
    obtain ⟨g, o, x, -, -, hx, -⟩ := heads_at hH hm
    have h1 := allIns_take hx
    have h2 := hS x (List.mem_of_getElem? hx)
    have h3 := allIns_le hs (0 + 1)
    rw [h1, List.length_append] at h3
    have h4 := h2.1.1
    omega
  have HLE := Lib.hid (fun k => allIns_le hs k)
  clear hH hS hml
  go_enter Tryd.func75, Tryd.ntmps75
  go_wp2_with fail
  go_loopw [3, 11] (fun su iu wx => ∃ k : Nat, k ≤ m ∧ iu = .int .i64 k ∧ su = .int .i64 ((allIns (hs.take k)).length : Nat) ∧ wx = w) (fun _ iu _ => m - (intOf iu).toNat)
  case atStart => exact ⟨0, by omega, rfl, (by first | trivial | rfl), rfl⟩
  case round =>
    obtain ⟨k, hk, rfl, rfl, rfl⟩ := hrel
    have hle := HLE.out k
    by_cases hkm : k < m
    · obtain ⟨g, o, x, rfl, hg, hx, c0⟩ := heads_at HH.out hkm
      have hxl := (HS.out x (List.mem_of_getElem? hx)).1.1
      have hle2 := HLE.out (k + 1)
      have HN := Lib.hid (show (allIns (hs.take (k + 1))).length = (allIns (hs.take k)).length + x.n by rw [allIns_take hx, List.length_append, hxl])
      rw [HN.out] at hle2
      generalize (allIns (hs.take k)).length = t at HN hle hle2 ⊢
      clear hx hxl
      go_wp2_with fail
      go_roundw
      case rel => exact ⟨k + 1, by omega, by go_num, by rw [HN.out]; go_num, (by first | trivial | rfl)⟩
      case measure => simp [intOf]; omega
    · obtain rfl : k = m := by omega
      rw [HTK.out]
      have TG := Lib.hid (fun w' => grow_code (allIns hs).length hpos hL w')
      generalize hN : (allIns hs).length = N at TG hle hL hpos ⊢
      have HNL := Lib.hid hN
      clear hN
      go_wp2_with fail
      refine (TG.out _).mono ?_
      rintro e w2 ⟨g0, c2, rfl, hown, hb⟩
      have HB2 := Lib.hid hb
      have HO2 := Lib.hid hown
      clear hb hown
      go_wp2_with fail
      go_loopw [6, 27] (fun su iu wx => ∃ j : Nat, j ≤ k ∧ iu = .int .i64 j ∧ (∃ g c', su = .slice (some ⟨g, 0, none⟩) (allIns (hs.take j)).length c') ∧ wx.ownsRow wr.heap.size 39 5 su (allIns (hs.take j)).length (codeCells (allIns (hs.take j))) ∧ Below wr.heap.size wr wx) (fun _ iu _ => k - (intOf iu).toNat)
      case atStart => exact ⟨0, by omega, rfl, ⟨_, _, (by first | trivial | rfl)⟩, HO2.out, HB2.out⟩
      case round =>
        obtain ⟨j, hj, rfl, ⟨g1, c1, rfl⟩, hown, hb⟩ := hrel
        have HBR := Lib.hid hb
        have HOW := Lib.hid hown
        by_cases hjk : j < k
        · obtain ⟨g, o, x, rfl, hg, hx, c0⟩ := heads_at (HH.out.keep hb) hjk
          obtain ⟨hsx, hxn⟩ := HS.out x (List.mem_of_getElem? hx)
          have hsx' := hsx.keep hb
          obtain ⟨gx, ox, ex, hgx, hcx⟩ := hsx'.2.2.2.2.2 hxn
          have HCX := Lib.hid (show ∀ (q : Nat) (u : Value), (codeCells x.l)[q]? = some u → _ from hcx)
          obtain ⟨xA, xn, xc, xl⟩ := x
          dsimp only at ex hxn HCX hsx hsx' c0
          subst ex
          have HA := Lib.hid (show ∀ (q : Nat) (u : Value), (codeCells xl)[q]? = some u → wr.cell? ((⟨gx, ox, none⟩ : Addr).add q) = some u by
            intro q u hu
            rw [addr_addN]; exact HCX.out q u hu)
          have hle3 := HLE.out (j + 1)
          have HAT := Lib.hid (allIns_take hx)
          have HN := Lib.hid (show (allIns (hs.take (j + 1))).length = (allIns (hs.take j)).length + xn by rw [HAT.out, List.length_append, hsx.1])
          rw [HNL.out] at hle3
          rw [HN.out] at hle3
          have HCL := Lib.hid (show (codeCells xl).length = xn * 5 from hsx.2.1)
          have HONE := Lib.hid (insCells_one xl)
          have HSZ := Lib.hid hb.size
          have HBY := Lib.hid (show ((allIns (hs.take j)).length + xn) * 48 ≤ 140737488355328 by omega)
          have HCC := Lib.hid (show codeCells (allIns (hs.take j)) ++ codeCells xl = codeCells (allIns (hs.take (j + 1))) by rw [HAT.out]; unfold codeCells; rw [List.flatMap_append])
          have HGE := Lib.hid (fun q hq => (hown.lt q hq).1)
          clear hb hown hx hsx hsx' hcx
          go_wp2_with (first | (at_builtin; refine list_append_src insSlice rfl _ _ rfl hxn rfl rfl HCL.out HA.out HOW.out HSZ.out HONE.out HBY.out ?_; intro g5 cap w5 hown5 hg5 hat5; have HG5 := Lib.hid hg5; have HO5 := Lib.hid hown5; clear hg5 hown5 hat5))
          go_roundw
          case rel =>
            refine ⟨j + 1, by omega, by go_num, ⟨_, _, by rw [HN.out]⟩, ?_, ?_⟩
            · have h := HO5.out
              rw [HCC.out] at h
              rw [HN.out]; exact h
            · exact HBR.out.trans ((Only.of_grown (S := fun q => (Value.slice (some ⟨g1, 0, none⟩) (allIns (hs.take j)).length c1).ownBlock = some q) HG5.out (fun q hq => hq.symm)).below HSZ.out (fun q hq => HGE.out q hq))
          case measure => simp [intOf]; omega
        · obtain rfl : j = k := by omega
          go_wp2_with fail
          go_ret
          have h := HOW.out
          rw [HTK.out] at h
          exact ⟨g1, c1, by rw [HTK.out]; rfl, h, HBR.out⟩
theorem CodeSays.see {l : List Ins} {w w' : World} {g c : Nat} (h : w'.ownsRow w.heap.size 39 5 (.slice (some ⟨g, 0, none⟩) l.length c) l.length (codeCells l)) : SeesCode w' (some ⟨g, 0, none⟩) l.length c l := code_own h
set_option maxHeartbeats 4000000 in
set_option maxRecDepth 100000 in
theorem either_code (F Y N : CodeH) (w : World) (hF : SeesCode w F.A F.n F.c F.l) (hY : SeesCode w Y.A Y.n Y.c Y.l) (hN : SeesCode w N.A N.n N.c N.l) (hF0 : 0 < F.n) (hY0 : 0 < Y.n) (hN0 : 0 < N.n) (hL : (eithP F.l Y.l N.l).length ≤ 1000000) :
    Calls Tryd.prog 73 #[.slice F.A F.n F.c, .slice Y.A Y.n Y.c, .slice N.A N.n N.c] w (CodeSays (eithP F.l Y.l N.l) w) := by
  have HF := Lib.hid hF
  have HY := Lib.hid hY
  have HN := Lib.hid hN
  have hly := hY.1
  have hln := hN.1
  have hyc := hY.2.2.1
  have hym := hY.2.2.2.1
  have hnc := hN.2.2.1
  have hnm := hN.2.2.2.1
  unfold maxLen at hym hnm
  have T1 := Lib.hid (fun w' => instr_code 5 ((Y.n : Int) + 1) w')
  have T2 := Lib.hid (fun w' => instr_code 4 (N.n : Int) w')
  have E := Lib.hid (show ∀ (g1 c1 g2 c2 : Nat), allIns [F, ⟨some ⟨g1, 0, none⟩, 1, c1, [⟨5, (Y.n : Int) + 1, noVal⟩]⟩, Y, ⟨some ⟨g2, 0, none⟩, 1, c2, [⟨4, (N.n : Int), noVal⟩]⟩, N] = eithP F.l Y.l N.l by
    intro g1 c1 g2 c2
    unfold allIns eithP elseI jumpI
    rw [hly, hln]
    simp)
  have HL := Lib.hid hL
  have HF0 := Lib.hid hF0
  have HY0 := Lib.hid hY0
  have HN0 := Lib.hid hN0
  have hb1 : Y.n < 9223372036854775807 := by
    have h := hL
    rw [eithP_len] at h
    omega
  clear hF hY hN hL hly hln hF0 hY0 hN0
  go_enter Tryd.func73, Tryd.ntmps73
  go_wp2_with fail
  refine (T1.out _).mono ?_
  rintro e w1 ⟨g1, c1, rfl, ho1, hb1'⟩
  have HB1 := Lib.hid hb1'
  have HO1 := Lib.hid ho1
  clear ho1 hb1'
  dsimp only [List.length_cons, List.length_nil]
  go_wp2_with fail
  refine (T2.out _).mono ?_
  rintro e w2 ⟨g2, c2, rfl, ho2, hb2⟩
  have HB2 := Lib.hid (below_step HB1.out hb2)
  have HS1 := Lib.hid ((CodeSays.see HO1.out).keep hb2)
  have HS2 := Lib.hid (CodeSays.see ho2)
  clear ho2 hb2
  dsimp only [List.length_cons, List.length_nil]
  obtain ⟨w3, hw3⟩ : ∃ w3, w2.alloc (.cells #[.slice F.A F.n F.c, .slice (some ⟨g1, 0, none⟩) 1 c1, .slice Y.A Y.n Y.c, .slice (some ⟨g2, 0, none⟩) 1 c2, .slice N.A N.n N.c] 31) = w3 := ⟨_, rfl⟩
  have hb3 : Below w2.heap.size w2 w3 := by rw [← hw3]; exact belowNew _ _
  have hsee : Sees w3 (some ⟨w2.heap.size, 0, none⟩) 5 5 1 ([F, ⟨some ⟨g1, 0, none⟩, 1, c1, [⟨5, (Y.n : Int) + 1, noVal⟩]⟩, Y, ⟨some ⟨g2, 0, none⟩, 1, c2, [⟨4, (N.n : Int), noVal⟩]⟩, N].map codeHV) := by
    rw [← hw3]
    exact seesNew w2 _ _ 5 1 rfl (by unfold maxLen; decide)
  have HB3 := Lib.hid (below_step HB2.out hb3)
  have T3 := Lib.hid (concat_code [F, ⟨some ⟨g1, 0, none⟩, 1, c1, [⟨5, (Y.n : Int) + 1, noVal⟩]⟩, Y, ⟨some ⟨g2, 0, none⟩, 1, c2, [⟨4, (N.n : Int), noVal⟩]⟩, N] (some ⟨w2.heap.size, 0, none⟩) 5 5 w3 hsee (by
    intro h hh
    simp only [List.mem_cons, List.not_mem_nil, or_false] at hh
    rcases hh with rfl | rfl | rfl | rfl | rfl
    · exact ⟨HF.out.keep HB3.out, HF0.out⟩
    · exact ⟨HS1.out.keep hb3, Nat.one_pos⟩
    · exact ⟨HY.out.keep HB3.out, HY0.out⟩
    · exact ⟨HS2.out.keep hb3, Nat.one_pos⟩
    · exact ⟨HN.out.keep HB3.out, HN0.out⟩) (by decide) (by rw [E.out]; exact HL.out))
  rw [E.out] at T3
  have HW3 := Lib.hid hw3
  clear hw3 hb3 hsee
  go_wp2_with (first | rw [HW3.out])
  refine (T3.out).mono ?_
  rintro e w4 ⟨g, c, rfl, ho, hb⟩
  have HB4 := Lib.hid (below_step HB3.out hb)
  have HO4 := Lib.hid (own_low ho HB3.out.size)
  clear ho hb
  go_wp2_with fail
  go_ret
  exact ⟨_, _, rfl, HO4.out, HB4.out⟩
end Go.Proofs.YthmbafkedgahaaaDoor
