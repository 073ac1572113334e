/- AggEdges: of numbers the least and the most are among them, and no other is beyond; the sum of as many alike is so many times one. -/
import Derived.Test.YtjnlonemnjljiaaDoorEdgeLaw
import Derived.Test.YtjnlonemnjljiaaDoorReckon
import Derived.Test.YtjnlonemnjljiaaDoorOpenInts
import Derived.Test.YtjnlonemnjljiaaDoorFrame
import Derived.Test.YtjnlonemnjljiaaDoorLaidErr
import Derived.Deep.RegionHeld3
import Derived.BigQuiet
import Derived.Deep.DeepWitnessRowRef
namespace Go.Proofs.YtjnlonemnjljiaaDoor.aggEdges
open Go.ChangeShapes Go.WideShapes Go.ChangeAt Go.RowKit

theorem errIs (k : Int) : ErrIs (errV k) k := by
  by_cases h : k = 0
  · exact Or.inl ⟨by rw [h]; rfl, h⟩
  · exact Or.inr ⟨errV_ne h, h⟩
theorem results_cell1 {fn : Func} {p : Tmp} {ty : TypeId} (h : fn.results = #[.cell p ty]) (tmps : Array Value) (P : Program) (w : World) :
    (results fn tmps).run P w = ((asAddr (tmps.getD p undef)).run P w).andThen fun a w₁ => (loadVar ty a).run P w₁ := by
  simp only [results, h]
  simp [Sem.run_bind, Result.andThen]
theorem in_any (n : Int) (w : World) : Calls Tryd.prog 13 #[.int .i64 n] w fun e w' => e = .returned (.agg #[.int .i64 1, .int .i64 n, .string ⟨#[]⟩]) ∧ Below w.heap.size w w' := by
  go_enter Tryd.func13, Tryd.ntmps13
  go_wp2_with fail
  (try simp only [Exit.inBlock, Exit.then])
  refine bodyPost_ret (v := .agg #[.int .i64 1, .int .i64 n, .string ⟨#[]⟩]) ?_ rfl ⟨rfl, (Below.refl _ _).alloc (Nat.le_refl _) _⟩
  rw [results_cell1 rfl]
  obtain ⟨c0, c1, c2⟩ := box3 (heap_alloc_new w (.cells #[.int .i64 1, .int .i64 n, .string ⟨#[]⟩] 29))
  simp [asAddr, Result.andThen, loadVar, loadCells, loadCellsFrom, load, Sem.run, Sem.run_bind, c0, c1, c2, Addr.add]

theorem three {w : World} {g o : Nat} {c : Nat} {v0 v1 v2 : Val} (h : SeesVals w (some ⟨g, o, none⟩) 3 c [v0, v1, v2]) :
    w.cell? ⟨g, o + 1, none⟩ = some (.int .i64 v0.n) ∧ w.cell? ⟨g, o + 4, none⟩ = some (.int .i64 v1.n) ∧ w.cell? ⟨g, o + 7, none⟩ = some (.int .i64 v2.n) := by
  obtain ⟨g0, o0, u0, e0, -, h0, -, a0, -⟩ := h.at_ (k := 0) (by decide)
  obtain ⟨g1, o1, u1, e1, -, h1, -, a1, -⟩ := h.at_ (k := 1) (by decide)
  obtain ⟨g2, o2, u2, e2, -, h2, -, a2, -⟩ := h.at_ (k := 2) (by decide)
  injection e0 with e0; injection e0 with e0 e0'; subst e0 e0'
  injection e1 with e1; injection e1 with e1 e1'; subst e1 e1'
  injection e2 with e2; injection e2 with e2 e2'; subst e2 e2'
  obtain rfl : v0 = u0 := by simpa using h0
  obtain rfl : v1 = u1 := by simpa using h1
  obtain rfl : v2 = u2 := by simpa using h2
  exact ⟨a0, a1, a2⟩
set_option maxHeartbeats 8000000 in
set_option maxRecDepth 100000 in
theorem walk (A0 : Option Addr) (m c : Nat) (n times : Int) (l : List Int) (W : World) (hG : ErrT W) (hl : Sees W A0 m c 1 (intCells l)) (hf : ∀ x ∈ l, fits x) (hn : fits n) :
    Calls Tryd.prog 3 #[.slice A0 m c, .int .i64 n, .int .i64 times] W fun e W' => e = .returned (.bool true) ∧ Below W.heap.size W W' := by
  have HL := Lib.hid hl
  have HF := Lib.hid hf
  have HG := Lib.hid hG
  have hc1 := hl.2.1
  have hc2 := hl.2.2.1
  unfold maxLen at hc2
  have HLL := Lib.hid (intCells_len hl)
  have HFN := Lib.hid hn
  obtain ⟨x0, hx0⟩ : ∃ x0, W.alloc (.cells #[.string ⟨#[108, 101, 97, 115, 116]⟩, .string ⟨#[]⟩, .string ⟨#[]⟩, .int .i64 0, .int .i64 0, .string ⟨#[]⟩, .slice none 0 0, .int .i64 0, .string ⟨#[]⟩, .string ⟨#[109, 111, 115, 116]⟩, .string ⟨#[]⟩, .string ⟨#[]⟩, .int .i64 0, .int .i64 0, .string ⟨#[]⟩, .slice none 0 0, .int .i64 0, .string ⟨#[]⟩, .string ⟨#[99, 111, 117, 110, 116]⟩, .string ⟨#[]⟩, .string ⟨#[]⟩, .int .i64 0, .int .i64 0, .string ⟨#[]⟩, .slice none 0 0, .int .i64 0, .string ⟨#[]⟩] 34) = x0 := ⟨_, rfl⟩
  obtain ⟨w0, hw0⟩ : ∃ w0, x0.alloc (.cells #[.int .i64 1, .int .i64 1, .int .i64 0] 3) = w0 := ⟨_, rfl⟩
  have hbx0 : Below W.heap.size W x0 := by rw [← hx0]; exact (Below.refl _ _).alloc (Nat.le_refl _) _
  have hxs : x0.heap.size = W.heap.size + 1 := by rw [← hx0]; simp
  have hbw0 : Below x0.heap.size x0 w0 := by rw [← hw0]; exact (Below.refl _ _).alloc (Nat.le_refl _) _
  have HB0 := Lib.hid (below_step hbx0 hbw0)
  have HS0 := Lib.hid (show SeesAggs w0 (some ⟨W.heap.size, 0, none⟩) 3 3 aggsEdge from SeesAggs.keep (by rw [← hx0]; exact ⟨rfl, seesNew W (aggsCells aggsEdge) 34 3 9 rfl (by decide)⟩) hbw0)
  have HT0 := Lib.hid (show Sees w0 (some ⟨x0.heap.size, 0, none⟩) 3 3 1 (intCells [1, 1, 0]) by rw [← hw0]; exact seesNew x0 (intCells [1, 1, 0]) 3 3 1 rfl (by decide))
  rw [hxs] at HT0
  have HX0 := Lib.hid hx0
  have HW0 := Lib.hid hw0
  have HXS := Lib.hid hxs
  clear hl hf hG hx0 hw0 hbx0 hxs hbw0 hn
  go_enter Tryd.func3, Tryd.ntmps3
  go_wp2_with (first | rw [HX0.out] | rw [HW0.out])
  rw [HXS.out]
  refine (new_in HS0.out HT0.out edge_new).mono ?_
  rintro e v0 ⟨⟨A, cA, rfl, hin⟩, hb⟩
  rw [edge_kds] at hin
  have HIN := Lib.hid hin
  have HB := Lib.hid (below_step HB0.out hb)
  have hsz := hb.size
  have hsW := HB0.out.size
  clear hin hb
  go_wp2_with fail
  refine (result_in w0.heap.size v0.heap.size cA A ksEdge [] v0 HIN.out (by decide)).mono ?_
  rintro e v1 ⟨⟨T1, c1, rfl, -, -⟩, hb⟩
  have er : onesRes (onesOf ksEdge []) ([] : List (List Val)).length = (5, []) := edge_none
  rw [er]
  have HIN1 := Lib.hid (HIN.out.keep hb)
  have HB1 := Lib.hid (below_step HB.out hb)
  have hv1 := hb.size
  clear hb er
  go_wp2_with fail
  refine (same_err (errV 5) 5 5 v1 (HG.out.keep HB1.out) (errIs 5)).mono ?_
  rintro e v2 ⟨rfl, hb⟩
  have HIN2 := Lib.hid (HIN1.out.keep hb)
  have HB2 := Lib.hid (below_step HB1.out hb)
  have hv2 := hb.size
  clear hb
  go_wp2_with fail
  go_loopw [12, 13] (fun u v wx => ∃ i : Nat, i ≤ m ∧ i ≤ 60 ∧ u = .int .i64 i ∧ v = .int .i64 i ∧ AccIn wx w0.heap.size v0.heap.size cA A ksEdge ((l.take i).map rowE) ∧ Below W.heap.size W wx ∧ v0.heap.size ≤ wx.heap.size) (fun _ v _ => m - (intOf v).toNat)
  case atStart => exact ⟨0, by omega, by omega, rfl, rfl, HIN2.out, HB2.out, by omega⟩
  case round =>
    obtain ⟨i, him, hi60, rfl, rfl, hin, hlow, hvx⟩ := hrel
    have HI := Lib.hid hin
    have HLOW := Lib.hid hlow
    clear hin hlow
    by_cases hlm : i < m
    · by_cases hl60 : i < 60
      · have d60 : decide (i < 60) = true := decide_eq_true hl60
        obtain ⟨gl, ol, x, rfl, hx, q0⟩ := ints_at HL.out hlm
        have q1 := (HLOW.out.cell (p := ⟨gl, ol + i, none⟩) (World.block_lt_of_cell? W _ q0)).trans q0
        have HFX := Lib.hid (HF.out x (List.mem_of_getElem? hx))
        have HTK := Lib.hid (show (l.take (i + 1)).map rowE = (l.take i).map rowE ++ [rowE x] by rw [List.take_add_one, hx]; simp)
        have HQ0 := Lib.hid q0
        have hgW : gl < W.heap.size := World.block_lt_of_cell? W _ q0
        clear hx q0
        have hwsz := HLOW.out.size
        have hgl : gl < wr.heap.size := World.block_lt_of_cell? wr _ q1
        have q2 : wr.drew.cell? ⟨gl, ol + i, none⟩ = some (.int .i64 x) := q1
        have HBD := Lib.hid (show Below wr.heap.size wr wr.drew from (Below.refl _ _).drew)
        have hvd : v0.heap.size ≤ wr.drew.heap.size := hvx
        have T := Lib.hid (fun w' => in_any x w')
        have STEP := Lib.hid (show ∀ w4 : World, Below wr.heap.size wr w4 → Calls Tryd.prog 12 #[.pointer (some ⟨w0.heap.size, 0, none⟩), .slice (some ⟨w4.heap.size, 0, none⟩) 3 3] (w4.alloc (.cells #[.int .i64 1, .int .i64 x, .string ⟨#[]⟩, .int .i64 1, .int .i64 x, .string ⟨#[]⟩, .int .i64 0, .int .i64 0, .string ⟨#[]⟩] 29)) (fun e w' => e = .returned .nilIface ∧ AccIn w' w0.heap.size v0.heap.size cA A ksEdge ((l.take (i + 1)).map rowE) ∧ Below W.heap.size W w' ∧ v0.heap.size ≤ w'.heap.size) from by
          intro w4 hb4
          have hbx : Below wr.heap.size wr (w4.alloc (.cells #[.int .i64 1, .int .i64 x, .string ⟨#[]⟩, .int .i64 1, .int .i64 x, .string ⟨#[]⟩, .int .i64 0, .int .i64 0, .string ⟨#[]⟩] 29)) := hb4.alloc hb4.size _
          have hlow1 := below_step HLOW.out hbx
          refine (put_in w0.heap.size v0.heap.size cA 3 3 A (some ⟨w4.heap.size, 0, none⟩) ksEdge ((l.take i).map rowE) (rowE x) _ (HI.out.keep hbx) ⟨rfl, seesNew w4 (valsCells (rowE x)) _ 3 3 rfl (by decide)⟩ (rowE_wf HFX.out) (by rw [List.length_map, List.length_take]; omega) (fun _ ad e h => by injection e with e; rw [← e] at h; have := hb4.size; unfold Span at h; simp only at h; omega)).mono ?_
          rintro e x2 ⟨rfl, hin, hy⟩
          rw [edge_add, ← HTK.out] at hin
          exact ⟨by rw [edge_ok]; rfl, hin, hlow1.trans (span_below hy (show W.heap.size ≤ w0.heap.size by omega) hlow1.size), by have := hy.size; have := hbx.size; omega⟩)
        clear q1
        go_wp2_with fail
        go_region_held3 (fun w' => w'.cell? ⟨gl, ol + i, none⟩ = some (.int .i64 x)) (first | go_keep | exact q2 | exact q4 | exact q5 | exact q6) (first
          | (go_at_call 13; ((with_reducible refine (T.out wr.drew).mono ?_); rintro e w4 ⟨rfl, hb4⟩; have HB4 := Lib.hid (HBD.out.trans hb4); have q4 := (hb4.cell (p := ⟨gl, ol + i, none⟩) hgl).trans q2; clear hb4))
          | (go_at_call 13; ((with_reducible refine (T.out w4).mono ?_); rintro e w5 ⟨rfl, hb5⟩; have HB5 := Lib.hid (HB4.out.trans (hb5.mono HB4.out.size)); have q5 := (hb5.cell (p := ⟨gl, ol + i, none⟩) (Nat.lt_of_lt_of_le hgl HB4.out.size)).trans q4; clear hb5))
          | (go_at_call 12; (refine (STEP.out w5 HB5.out).mono ?_; rintro e x2 ⟨rfl, hin, hlow2, hv2⟩; have HI2 := Lib.hid hin; have HLOW2 := Lib.hid hlow2; have HX2 := Lib.hid hv2; have q6 := (hlow2.cell (p := ⟨gl, ol + i, none⟩) hgW).trans HQ0.out; clear hin hlow2 hv2)))
        all_goals
          go_wp2_with fail
          go_roundw
          case rel => exact ⟨i + 1, by omega, by omega, by go_num, by go_num, HI2.out, HLOW2.out, HX2.out⟩
          case measure => simp [intOf]; omega
      · have d60 : decide (i < 60) = false := decide_eq_false hl60
        go_wp2_with fail
        refine (result_in w0.heap.size v0.heap.size cA A ksEdge ((l.take i).map rowE) wr HI.out (by decide)).mono ?_
        rintro e v3 ⟨⟨T3, c3, rfl, hv3, -⟩, hb⟩
        have hlen : ((l.take i).map rowE).length = i := by rw [List.length_map, List.length_take, HLL.out]; omega
        have HBE := Lib.hid (below_step HLOW.out hb)
        rw [hlen] at hv3 ⊢
        clear hb hlen
        by_cases hi0 : i = 0
        · subst hi0
          have er : onesRes (onesOf ksEdge ((l.take 0).map rowE)) 0 = (5, []) := edge_none
          rw [er]
          clear er hv3
          exact absurd hl60 (by omega)
        · have hne : l.take i ≠ [] := by
            intro h
            have := congrArg List.length h
            rw [List.length_take, HLL.out, List.length_nil] at this
            omega
          rw [edge_res (l.take i) i hi0] at hv3 ⊢
          have LEAST := Lib.hid (fun (x : Int) hx => edge_least (l.take i) hne (x := x) hx)
          have MOST := Lib.hid (fun (x : Int) hx => edge_most (l.take i) hne (x := x) hx)
          have MEM0 := Lib.hid (any_all (edge_mem leastB (l.take i) hne))
          have MEM1 := Lib.hid (any_all (edge_mem mostB (l.take i) hne))
          generalize bestOf leastB ((l.take i).map ofV) = b0 at hv3 LEAST MEM0 ⊢
          generalize bestOf mostB ((l.take i).map ofV) = b1 at hv3 MOST MEM1 ⊢
          rw [errV_zero]
          obtain ⟨g3, o3, u3, rfl, hg3, -⟩ := hv3.at_ (k := 0) (show 0 < 3 by decide)
          obtain ⟨c30, c31, p32⟩ := three hv3
          have C30 := Lib.hid c30
          have C31 := Lib.hid c31
          have c32 : v3.cell? ⟨g3, o3 + 7, none⟩ = some (.int .i64 i) := p32
          have hc3 : 3 ≤ c3 := hv3.2.2.1
          have hm3 : c3 ≤ 2 ^ 63 - 1 := hv3.2.2.2.1
          have ei : ((i : Int) == i) = true := by simp
          have hip : 0 < i := by omega
          clear hv3 hne c30 c31 p32
          obtain ⟨wo, hwo⟩ : ∃ wo, wo = wr := ⟨_, rfl⟩
          subst hwo
          go_wp2_with fail
          clear c32
          go_loopw [15, 16, 17] (fun u v x wx => ∃ (k : Nat) (lo hi : Bool), k ≤ i ∧ u = .bool lo ∧ v = .bool hi ∧ x = .int .i64 k ∧ lo = (l.take k).any (· == b0.n) ∧ hi = (l.take k).any (· == b1.n) ∧ Below v3.heap.size v3 wx) (fun _ _ x _ => i - (intOf x).toNat)
          case atStart => exact ⟨0, false, false, by omega, rfl, rfl, rfl, rfl, rfl, Below.refl _ _⟩
          case round =>
            obtain ⟨k, lo, hi, hki, rfl, rfl, rfl, hlo, hhi, hlow⟩ := hrel
            have HLO := Lib.hid hlo
            have HHI := Lib.hid hhi
            have HL3 := Lib.hid hlow
            clear hlo hhi hlow
            by_cases hk : k < i
            · obtain ⟨gl, ol, x, rfl, hx, p0⟩ := ints_at HL.out (show k < m by omega)
              have hgW : gl < W.heap.size := World.block_lt_of_cell? W _ p0
              have p1 : wr.cell? ⟨gl, ol + k, none⟩ = some (.int .i64 x) := ((below_step HBE.out HL3.out).cell (p := ⟨gl, ol + k, none⟩) hgW).trans p0
              have p2 : wr.cell? ⟨g3, o3 + 1, none⟩ = some (.int .i64 b0.n) := (HL3.out.cell (p := ⟨g3, o3 + 1, none⟩) hg3).trans C30.out
              have p3 : wr.cell? ⟨g3, o3 + 4, none⟩ = some (.int .i64 b1.n) := (HL3.out.cell (p := ⟨g3, o3 + 4, none⟩) hg3).trans C31.out
              have hxt : x ∈ l.take i := List.mem_of_getElem? (i := k) (by rw [List.getElem?_take_of_lt hk]; exact hx)
              have d1 : decide (x < b0.n) = false := decide_eq_false (by have := LEAST.out x hxt; omega)
              have d2 : decide (b1.n < x) = false := decide_eq_false (by have := MOST.out x hxt; omega)
              have S0 := Lib.hid (any_step (b := b0.n) hx)
              have S1 := Lib.hid (any_step (b := b1.n) hx)
              clear hx p0 hxt
              cases lo <;> cases hi
              all_goals
                go_wp2_with fail
                go_quiet (fail)
                go_wp2_with fail
                go_quiet (fail)
                go_wp2_with fail
                go_quiet (fail)
                go_wp2_with fail
                go_roundw
                case rel => exact ⟨k + 1, _, _, by omega, rfl, rfl, by go_num, by rw [S0.out, ← HLO.out]; rfl, by rw [S1.out, ← HHI.out]; rfl, by repeat (first | exact HL3.out | refine below_drewN ?_ _ | refine Below.drew ?_)⟩
                case measure => simp [intOf]; omega
            · obtain rfl : k = i := by omega
              obtain rfl : lo = true := HLO.out.trans MEM0.out
              obtain rfl : hi = true := HHI.out.trans MEM1.out
              have HBE := Lib.hid (below_step HBE.out HL3.out)
              obtain ⟨wp, hwp⟩ : ∃ wp, wp = wr := ⟨_, rfl⟩
              subst hwp
              by_cases ht0 : times < 0
              · have dt : decide (times < 0) = true := decide_eq_true ht0
                go_wp2_with fail
                go_ret
                exact ⟨rfl, HBE.out⟩
              by_cases ht1 : 100 < times
              · have dt : decide (times < 0) = false := decide_eq_false ht0
                have du : decide (100 < times) = true := decide_eq_true ht1
                go_wp2_with fail
                go_ret
                exact ⟨rfl, HBE.out⟩
              obtain ⟨k, rfl⟩ : ∃ k : Nat, times = k := ⟨times.toNat, by omega⟩
              have dt : decide ((k : Int) < 0) = false := decide_eq_false ht0
              have du : decide (100 < (k : Int)) = false := decide_eq_false ht1
              obtain ⟨y0, hy0⟩ : ∃ y0, (wp.alloc (.cells #[.string ⟨#[115, 117, 109]⟩, .string ⟨#[]⟩, .string ⟨#[]⟩, .int .i64 0, .int .i64 0, .string ⟨#[]⟩, .slice none 0 0, .int .i64 0, .string ⟨#[]⟩] 34)).alloc (.cells #[.int .i64 1] 3) = y0 := ⟨_, rfl⟩
              have HBY0 := Lib.hid (show Below wp.heap.size wp y0 by rw [← hy0]; exact ((Below.refl _ _).alloc (Nat.le_refl _) _).alloc (by simp) _)
              have HSY := Lib.hid (show SeesAggs y0 (some ⟨wp.heap.size, 0, none⟩) 1 1 [aggOf sumB] by rw [← hy0]; exact (seesOneAgg wp sumB _).keep ((Below.refl _ _).alloc (Nat.le_refl _) _))
              have HTY := Lib.hid (show Sees y0 (some ⟨wp.heap.size + 1, 0, none⟩) 1 1 1 (intCells [1]) by
                rw [← hy0]
                have := seesNew (wp.alloc (.cells #[.string ⟨#[115, 117, 109]⟩, .string ⟨#[]⟩, .string ⟨#[]⟩, .int .i64 0, .int .i64 0, .string ⟨#[]⟩, .slice none 0 0, .int .i64 0, .string ⟨#[]⟩] 34)) (intCells [1]) 3 1 1 rfl (by decide)
                rw [show (wp.alloc (.cells #[.string ⟨#[115, 117, 109]⟩, .string ⟨#[]⟩, .string ⟨#[]⟩, .int .i64 0, .int .i64 0, .string ⟨#[]⟩, .slice none 0 0, .int .i64 0, .string ⟨#[]⟩] 34)).heap.size = wp.heap.size + 1 by simp] at this
                exact this)
              have HY0 := Lib.hid hy0
              clear hy0
              go_wp2_with (first | rw [HY0.out])
              refine (new_in HSY.out HTY.out sum_new).mono ?_
              rintro e y1 ⟨⟨A2, cA2, rfl, hin⟩, hb⟩
              rw [sum_kds] at hin
              have HINY := Lib.hid hin
              have HBY1 := Lib.hid (below_step (below_step HBE.out HBY0.out) hb)
              have hsy := hb.size
              have hsy0 := HBY0.out.size
              have hsE := HBE.out.size
              clear hin hb
              go_wp2_with fail
              go_loopw [8, 19] (fun u v wx => ∃ j : Nat, j ≤ k ∧ u = .nilIface ∧ v = .int .i64 j ∧ AccIn wx y0.heap.size y1.heap.size cA2 A2 ksSum (List.replicate j [ofV n]) ∧ Below W.heap.size W wx ∧ y1.heap.size ≤ wx.heap.size) (fun _ v _ => k - (intOf v).toNat)
              case atStart => exact ⟨0, by omega, rfl, rfl, HINY.out, HBY1.out, by omega⟩
              case round =>
                obtain ⟨j, hjk, rfl, rfl, hin, hlow, hyx⟩ := hrel
                have HJ := Lib.hid hin
                have HJL := Lib.hid hlow
                clear hin hlow
                by_cases hj : j < k
                · go_wp2_with fail
                  refine (in_any n wr).mono ?_
                  rintro e z1 ⟨rfl, hb⟩
                  have HBZ := Lib.hid hb
                  have hz1 := hb.size
                  clear hb
                  obtain ⟨z2, hz2⟩ : ∃ z2, z1.alloc (.cells #[.int .i64 1, .int .i64 n, .string ⟨#[]⟩] 29) = z2 := ⟨_, rfl⟩
                  have HBZ2 := Lib.hid (show Below z1.heap.size z1 z2 by rw [← hz2]; exact (Below.refl _ _).alloc (Nat.le_refl _) _)
                  have HSZ := Lib.hid (show SeesVals z2 (some ⟨z1.heap.size, 0, none⟩) 1 1 [ofV n] by rw [← hz2]; exact seesOneVal z1 (ofV n) _)
                  have HZ2 := Lib.hid hz2
                  clear hz2
                  go_wp2_with (first | rw [HZ2.out])
                  refine (put_in y0.heap.size y1.heap.size cA2 1 1 A2 (some ⟨z1.heap.size, 0, none⟩) ksSum (List.replicate j [ofV n]) [ofV n] z2 (HJ.out.keep (below_step HBZ.out HBZ2.out)) HSZ.out (ofV_wf HFN.out) (by rw [List.length_replicate]; omega) (fun _ ad e h => by injection e with e; rw [← e] at h; unfold Span at h; simp only at h; omega)).mono ?_
                  rintro e z3 ⟨rfl, hin, hy⟩
                  rw [sum_ok, errV_zero]
                  rw [sum_add, ← List.replicate_succ'] at hin
                  have HJ2 := Lib.hid hin
                  have HJL2 := Lib.hid (show Below W.heap.size W z3 from (below_step (below_step HJL.out HBZ.out) HBZ2.out).trans (span_below hy (show W.heap.size ≤ y0.heap.size by omega) (by have := HJL.out.size; have := HBZ2.out.size; omega)))
                  have HZS := Lib.hid (show y1.heap.size ≤ z3.heap.size by have := hy.size; have := HBZ2.out.size; omega)
                  clear hin hy
                  go_wp2_with fail
                  go_roundw
                  case rel => exact ⟨j + 1, by omega, rfl, by go_num, HJ2.out, HJL2.out, HZS.out⟩
                  case measure => simp [intOf]; omega
                · obtain rfl : j = k := by omega
                  go_wp2_with fail
                  refine (result_in y0.heap.size y1.heap.size cA2 A2 ksSum (List.replicate j [ofV n]) wr HJ.out (by decide)).mono ?_
                  rintro e z1 ⟨⟨T9, c9, rfl, hv9, -⟩, hb⟩
                  have er : onesRes (onesOf ksSum (List.replicate j [ofV n])) (List.replicate j [ofV n]).length = if reckonErr [42] n j = 0 then (0, [ofV (reckonVal [42] n j)]) else (9, []) := by rw [List.length_replicate]; exact sum_res n j
                  rw [er] at hv9 ⊢
                  have HBZ := Lib.hid (below_step HJL.out hb)
                  have RK := Lib.hid (fun w' => reckon_at ⟨#[42]⟩ [42] rfl n j w' HFN.out ⟨by unfold lo63; omega, by unfold hi63; omega⟩)
                  clear hb er
                  generalize reckonVal [42] n j = rv at hv9 RK ⊢
                  generalize reckonErr [42] n j = re at hv9 RK ⊢
                  by_cases hre : re = 0
                  · subst hre
                    rw [if_pos rfl] at hv9 ⊢
                    rw [errV_zero] at RK ⊢
                    obtain ⟨g9, o9, u9, rfl, -, hu9, -, p9, -⟩ := hv9.at_ (k := 0) (show 0 < 1 by decide)
                    obtain rfl : ofV rv = u9 := by simpa using hu9
                    rw [Nat.zero_mul, Nat.add_zero] at p9
                    have q9 : z1.cell? ⟨g9, o9 + 1, none⟩ = some (.int .i64 rv) := p9
                    have hc9 : 1 ≤ c9 := hv9.2.2.1
                    have hm9 : c9 ≤ 2 ^ 63 - 1 := hv9.2.2.2.1
                    have er9 : (rv == rv) = true := by simp
                    clear hu9 hv9 p9
                    go_wp2_with fail
                    refine (RK.out z1).mono ?_
                    rintro e z2 ⟨rfl, rfl⟩
                    go_wp2_with fail
                    go_quiet (fail)
                    go_wp2_with fail
                    go_ret
                    exact ⟨rfl, below_drewN HBZ.out _⟩
                  · rw [if_neg hre] at hv9 ⊢
                    rw [errV_ne hre] at RK
                    rw [errV_ne (by decide)]
                    clear hv9
                    go_wp2_with fail
                    refine (RK.out z1).mono ?_
                    rintro e z2 ⟨rfl, rfl⟩
                    go_wp2_with fail
                    go_quiet (fail)
                    go_wp2_with fail
                    go_ret
                    exact ⟨rfl, below_drewN HBZ.out _⟩
    · go_wp2_with fail
      refine (result_in w0.heap.size v0.heap.size cA A ksEdge ((l.take i).map rowE) wr HI.out (by decide)).mono ?_
      rintro e v3 ⟨⟨T3, c3, rfl, hv3, -⟩, hb⟩
      have hlen : ((l.take i).map rowE).length = i := by rw [List.length_map, List.length_take, HLL.out]; omega
      have HBE := Lib.hid (below_step HLOW.out hb)
      rw [hlen] at hv3 ⊢
      clear hb hlen
      by_cases hi0 : i = 0
      · subst hi0
        have er : onesRes (onesOf ksEdge ((l.take 0).map rowE)) 0 = (5, []) := edge_none
        rw [er]
        clear er hv3
        obtain ⟨wo, hwo⟩ : ∃ wo, wo = wr := ⟨_, rfl⟩
        subst hwo
        by_cases ht0 : times < 0
        · have dt : decide (times < 0) = true := decide_eq_true ht0
          go_wp2_with fail
          go_ret
          exact ⟨rfl, HBE.out⟩
        by_cases ht1 : 100 < times
        · have dt : decide (times < 0) = false := decide_eq_false ht0
          have du : decide (100 < times) = true := decide_eq_true ht1
          go_wp2_with fail
          go_ret
          exact ⟨rfl, HBE.out⟩
        obtain ⟨k, rfl⟩ : ∃ k : Nat, times = k := ⟨times.toNat, by omega⟩
        have dt : decide ((k : Int) < 0) = false := decide_eq_false ht0
        have du : decide (100 < (k : Int)) = false := decide_eq_false ht1
        obtain ⟨y0, hy0⟩ : ∃ y0, (v3.alloc (.cells #[.string ⟨#[115, 117, 109]⟩, .string ⟨#[]⟩, .string ⟨#[]⟩, .int .i64 0, .int .i64 0, .string ⟨#[]⟩, .slice none 0 0, .int .i64 0, .string ⟨#[]⟩] 34)).alloc (.cells #[.int .i64 1] 3) = y0 := ⟨_, rfl⟩
        have HBY0 := Lib.hid (show Below v3.heap.size v3 y0 by rw [← hy0]; exact ((Below.refl _ _).alloc (Nat.le_refl _) _).alloc (by simp) _)
        have HSY := Lib.hid (show SeesAggs y0 (some ⟨v3.heap.size, 0, none⟩) 1 1 [aggOf sumB] by rw [← hy0]; exact (seesOneAgg v3 sumB _).keep ((Below.refl _ _).alloc (Nat.le_refl _) _))
        have HTY := Lib.hid (show Sees y0 (some ⟨v3.heap.size + 1, 0, none⟩) 1 1 1 (intCells [1]) by
          rw [← hy0]
          have := seesNew (v3.alloc (.cells #[.string ⟨#[115, 117, 109]⟩, .string ⟨#[]⟩, .string ⟨#[]⟩, .int .i64 0, .int .i64 0, .string ⟨#[]⟩, .slice none 0 0, .int .i64 0, .string ⟨#[]⟩] 34)) (intCells [1]) 3 1 1 rfl (by decide)
          rw [show (v3.alloc (.cells #[.string ⟨#[115, 117, 109]⟩, .string ⟨#[]⟩, .string ⟨#[]⟩, .int .i64 0, .int .i64 0, .string ⟨#[]⟩, .slice none 0 0, .int .i64 0, .string ⟨#[]⟩] 34)).heap.size = v3.heap.size + 1 by simp] at this
          exact this)
        have HY0 := Lib.hid hy0
        clear hy0
        go_wp2_with (first | rw [HY0.out])
        refine (new_in HSY.out HTY.out sum_new).mono ?_
        rintro e y1 ⟨⟨A2, cA2, rfl, hin⟩, hb⟩
        rw [sum_kds] at hin
        have HINY := Lib.hid hin
        have HBY1 := Lib.hid (below_step (below_step HBE.out HBY0.out) hb)
        have hsy := hb.size
        have hsy0 := HBY0.out.size
        have hsE := HBE.out.size
        clear hin hb
        go_wp2_with fail
        go_loopw [8, 19] (fun u v wx => ∃ j : Nat, j ≤ k ∧ u = .nilIface ∧ v = .int .i64 j ∧ AccIn wx y0.heap.size y1.heap.size cA2 A2 ksSum (List.replicate j [ofV n]) ∧ Below W.heap.size W wx ∧ y1.heap.size ≤ wx.heap.size) (fun _ v _ => k - (intOf v).toNat)
        case atStart => exact ⟨0, by omega, rfl, rfl, HINY.out, HBY1.out, by omega⟩
        case round =>
          obtain ⟨j, hjk, rfl, rfl, hin, hlow, hyx⟩ := hrel
          have HJ := Lib.hid hin
          have HJL := Lib.hid hlow
          clear hin hlow
          by_cases hj : j < k
          · go_wp2_with fail
            refine (in_any n wr).mono ?_
            rintro e z1 ⟨rfl, hb⟩
            have HBZ := Lib.hid hb
            have hz1 := hb.size
            clear hb
            obtain ⟨z2, hz2⟩ : ∃ z2, z1.alloc (.cells #[.int .i64 1, .int .i64 n, .string ⟨#[]⟩] 29) = z2 := ⟨_, rfl⟩
            have HBZ2 := Lib.hid (show Below z1.heap.size z1 z2 by rw [← hz2]; exact (Below.refl _ _).alloc (Nat.le_refl _) _)
            have HSZ := Lib.hid (show SeesVals z2 (some ⟨z1.heap.size, 0, none⟩) 1 1 [ofV n] by rw [← hz2]; exact seesOneVal z1 (ofV n) _)
            have HZ2 := Lib.hid hz2
            clear hz2
            go_wp2_with (first | rw [HZ2.out])
            refine (put_in y0.heap.size y1.heap.size cA2 1 1 A2 (some ⟨z1.heap.size, 0, none⟩) ksSum (List.replicate j [ofV n]) [ofV n] z2 (HJ.out.keep (below_step HBZ.out HBZ2.out)) HSZ.out (ofV_wf HFN.out) (by rw [List.length_replicate]; omega) (fun _ ad e h => by injection e with e; rw [← e] at h; unfold Span at h; simp only at h; omega)).mono ?_
            rintro e z3 ⟨rfl, hin, hy⟩
            rw [sum_ok, errV_zero]
            rw [sum_add, ← List.replicate_succ'] at hin
            have HJ2 := Lib.hid hin
            have HJL2 := Lib.hid (show Below W.heap.size W z3 from (below_step (below_step HJL.out HBZ.out) HBZ2.out).trans (span_below hy (show W.heap.size ≤ y0.heap.size by omega) (by have := HJL.out.size; have := HBZ2.out.size; omega)))
            have HZS := Lib.hid (show y1.heap.size ≤ z3.heap.size by have := hy.size; have := HBZ2.out.size; omega)
            clear hin hy
            go_wp2_with fail
            go_roundw
            case rel => exact ⟨j + 1, by omega, rfl, by go_num, HJ2.out, HJL2.out, HZS.out⟩
            case measure => simp [intOf]; omega
          · obtain rfl : j = k := by omega
            go_wp2_with fail
            refine (result_in y0.heap.size y1.heap.size cA2 A2 ksSum (List.replicate j [ofV n]) wr HJ.out (by decide)).mono ?_
            rintro e z1 ⟨⟨T9, c9, rfl, hv9, -⟩, hb⟩
            have er : onesRes (onesOf ksSum (List.replicate j [ofV n])) (List.replicate j [ofV n]).length = if reckonErr [42] n j = 0 then (0, [ofV (reckonVal [42] n j)]) else (9, []) := by rw [List.length_replicate]; exact sum_res n j
            rw [er] at hv9 ⊢
            have HBZ := Lib.hid (below_step HJL.out hb)
            have RK := Lib.hid (fun w' => reckon_at ⟨#[42]⟩ [42] rfl n j w' HFN.out ⟨by unfold lo63; omega, by unfold hi63; omega⟩)
            clear hb er
            generalize reckonVal [42] n j = rv at hv9 RK ⊢
            generalize reckonErr [42] n j = re at hv9 RK ⊢
            by_cases hre : re = 0
            · subst hre
              rw [if_pos rfl] at hv9 ⊢
              rw [errV_zero] at RK ⊢
              obtain ⟨g9, o9, u9, rfl, -, hu9, -, p9, -⟩ := hv9.at_ (k := 0) (show 0 < 1 by decide)
              obtain rfl : ofV rv = u9 := by simpa using hu9
              rw [Nat.zero_mul, Nat.add_zero] at p9
              have q9 : z1.cell? ⟨g9, o9 + 1, none⟩ = some (.int .i64 rv) := p9
              have hc9 : 1 ≤ c9 := hv9.2.2.1
              have hm9 : c9 ≤ 2 ^ 63 - 1 := hv9.2.2.2.1
              have er9 : (rv == rv) = true := by simp
              clear hu9 hv9 p9
              go_wp2_with fail
              refine (RK.out z1).mono ?_
              rintro e z2 ⟨rfl, rfl⟩
              go_wp2_with fail
              go_quiet (fail)
              go_wp2_with fail
              go_ret
              exact ⟨rfl, below_drewN HBZ.out _⟩
            · rw [if_neg hre] at hv9 ⊢
              rw [errV_ne hre] at RK
              rw [errV_ne (by decide)]
              clear hv9
              go_wp2_with fail
              refine (RK.out z1).mono ?_
              rintro e z2 ⟨rfl, rfl⟩
              go_wp2_with fail
              go_quiet (fail)
              go_wp2_with fail
              go_ret
              exact ⟨rfl, below_drewN HBZ.out _⟩
      · have hne : l.take i ≠ [] := by
          intro h
          have := congrArg List.length h
          rw [List.length_take, HLL.out, List.length_nil] at this
          omega
        rw [edge_res (l.take i) i hi0] at hv3 ⊢
        have LEAST := Lib.hid (fun (x : Int) hx => edge_least (l.take i) hne (x := x) hx)
        have MOST := Lib.hid (fun (x : Int) hx => edge_most (l.take i) hne (x := x) hx)
        have MEM0 := Lib.hid (any_all (edge_mem leastB (l.take i) hne))
        have MEM1 := Lib.hid (any_all (edge_mem mostB (l.take i) hne))
        generalize bestOf leastB ((l.take i).map ofV) = b0 at hv3 LEAST MEM0 ⊢
        generalize bestOf mostB ((l.take i).map ofV) = b1 at hv3 MOST MEM1 ⊢
        rw [errV_zero]
        obtain ⟨g3, o3, u3, rfl, hg3, -⟩ := hv3.at_ (k := 0) (show 0 < 3 by decide)
        obtain ⟨c30, c31, p32⟩ := three hv3
        have C30 := Lib.hid c30
        have C31 := Lib.hid c31
        have c32 : v3.cell? ⟨g3, o3 + 7, none⟩ = some (.int .i64 i) := p32
        have hc3 : 3 ≤ c3 := hv3.2.2.1
        have hm3 : c3 ≤ 2 ^ 63 - 1 := hv3.2.2.2.1
        have ei : ((i : Int) == i) = true := by simp
        have hip : 0 < i := by omega
        clear hv3 hne c30 c31 p32
        obtain ⟨wo, hwo⟩ : ∃ wo, wo = wr := ⟨_, rfl⟩
        subst hwo
        go_wp2_with fail
        clear c32
        go_loopw [15, 16, 17] (fun u v x wx => ∃ (k : Nat) (lo hi : Bool), k ≤ i ∧ u = .bool lo ∧ v = .bool hi ∧ x = .int .i64 k ∧ lo = (l.take k).any (· == b0.n) ∧ hi = (l.take k).any (· == b1.n) ∧ Below v3.heap.size v3 wx) (fun _ _ x _ => i - (intOf x).toNat)
        case atStart => exact ⟨0, false, false, by omega, rfl, rfl, rfl, rfl, rfl, Below.refl _ _⟩
        case round =>
          obtain ⟨k, lo, hi, hki, rfl, rfl, rfl, hlo, hhi, hlow⟩ := hrel
          have HLO := Lib.hid hlo
          have HHI := Lib.hid hhi
          have HL3 := Lib.hid hlow
          clear hlo hhi hlow
          by_cases hk : k < i
          · obtain ⟨gl, ol, x, rfl, hx, p0⟩ := ints_at HL.out (show k < m by omega)
            have hgW : gl < W.heap.size := World.block_lt_of_cell? W _ p0
            have p1 : wr.cell? ⟨gl, ol + k, none⟩ = some (.int .i64 x) := ((below_step HBE.out HL3.out).cell (p := ⟨gl, ol + k, none⟩) hgW).trans p0
            have p2 : wr.cell? ⟨g3, o3 + 1, none⟩ = some (.int .i64 b0.n) := (HL3.out.cell (p := ⟨g3, o3 + 1, none⟩) hg3).trans C30.out
            have p3 : wr.cell? ⟨g3, o3 + 4, none⟩ = some (.int .i64 b1.n) := (HL3.out.cell (p := ⟨g3, o3 + 4, none⟩) hg3).trans C31.out
            have hxt : x ∈ l.take i := List.mem_of_getElem? (i := k) (by rw [List.getElem?_take_of_lt hk]; exact hx)
            have d1 : decide (x < b0.n) = false := decide_eq_false (by have := LEAST.out x hxt; omega)
            have d2 : decide (b1.n < x) = false := decide_eq_false (by have := MOST.out x hxt; omega)
            have S0 := Lib.hid (any_step (b := b0.n) hx)
            have S1 := Lib.hid (any_step (b := b1.n) hx)
            clear hx p0 hxt
            cases lo <;> cases hi
            all_goals
              go_wp2_with fail
              go_quiet (fail)
              go_wp2_with fail
              go_quiet (fail)
              go_wp2_with fail
              go_quiet (fail)
              go_wp2_with fail
              go_roundw
              case rel => exact ⟨k + 1, _, _, by omega, rfl, rfl, by go_num, by rw [S0.out, ← HLO.out]; rfl, by rw [S1.out, ← HHI.out]; rfl, by repeat (first | exact HL3.out | refine below_drewN ?_ _ | refine Below.drew ?_)⟩
              case measure => simp [intOf]; omega
          · obtain rfl : k = i := by omega
            obtain rfl : lo = true := HLO.out.trans MEM0.out
            obtain rfl : hi = true := HHI.out.trans MEM1.out
            have HBE := Lib.hid (below_step HBE.out HL3.out)
            obtain ⟨wp, hwp⟩ : ∃ wp, wp = wr := ⟨_, rfl⟩
            subst hwp
            by_cases ht0 : times < 0
            · have dt : decide (times < 0) = true := decide_eq_true ht0
              go_wp2_with fail
              go_ret
              exact ⟨rfl, HBE.out⟩
            by_cases ht1 : 100 < times
            · have dt : decide (times < 0) = false := decide_eq_false ht0
              have du : decide (100 < times) = true := decide_eq_true ht1
              go_wp2_with fail
              go_ret
              exact ⟨rfl, HBE.out⟩
            obtain ⟨k, rfl⟩ : ∃ k : Nat, times = k := ⟨times.toNat, by omega⟩
            have dt : decide ((k : Int) < 0) = false := decide_eq_false ht0
            have du : decide (100 < (k : Int)) = false := decide_eq_false ht1
            obtain ⟨y0, hy0⟩ : ∃ y0, (wp.alloc (.cells #[.string ⟨#[115, 117, 109]⟩, .string ⟨#[]⟩, .string ⟨#[]⟩, .int .i64 0, .int .i64 0, .string ⟨#[]⟩, .slice none 0 0, .int .i64 0, .string ⟨#[]⟩] 34)).alloc (.cells #[.int .i64 1] 3) = y0 := ⟨_, rfl⟩
            have HBY0 := Lib.hid (show Below wp.heap.size wp y0 by rw [← hy0]; exact ((Below.refl _ _).alloc (Nat.le_refl _) _).alloc (by simp) _)
            have HSY := Lib.hid (show SeesAggs y0 (some ⟨wp.heap.size, 0, none⟩) 1 1 [aggOf sumB] by rw [← hy0]; exact (seesOneAgg wp sumB _).keep ((Below.refl _ _).alloc (Nat.le_refl _) _))
            have HTY := Lib.hid (show Sees y0 (some ⟨wp.heap.size + 1, 0, none⟩) 1 1 1 (intCells [1]) by
              rw [← hy0]
              have := seesNew (wp.alloc (.cells #[.string ⟨#[115, 117, 109]⟩, .string ⟨#[]⟩, .string ⟨#[]⟩, .int .i64 0, .int .i64 0, .string ⟨#[]⟩, .slice none 0 0, .int .i64 0, .string ⟨#[]⟩] 34)) (intCells [1]) 3 1 1 rfl (by decide)
              rw [show (wp.alloc (.cells #[.string ⟨#[115, 117, 109]⟩, .string ⟨#[]⟩, .string ⟨#[]⟩, .int .i64 0, .int .i64 0, .string ⟨#[]⟩, .slice none 0 0, .int .i64 0, .string ⟨#[]⟩] 34)).heap.size = wp.heap.size + 1 by simp] at this
              exact this)
            have HY0 := Lib.hid hy0
            clear hy0
            go_wp2_with (first | rw [HY0.out])
            refine (new_in HSY.out HTY.out sum_new).mono ?_
            rintro e y1 ⟨⟨A2, cA2, rfl, hin⟩, hb⟩
            rw [sum_kds] at hin
            have HINY := Lib.hid hin
            have HBY1 := Lib.hid (below_step (below_step HBE.out HBY0.out) hb)
            have hsy := hb.size
            have hsy0 := HBY0.out.size
            have hsE := HBE.out.size
            clear hin hb
            go_wp2_with fail
            go_loopw [8, 19] (fun u v wx => ∃ j : Nat, j ≤ k ∧ u = .nilIface ∧ v = .int .i64 j ∧ AccIn wx y0.heap.size y1.heap.size cA2 A2 ksSum (List.replicate j [ofV n]) ∧ Below W.heap.size W wx ∧ y1.heap.size ≤ wx.heap.size) (fun _ v _ => k - (intOf v).toNat)
            case atStart => exact ⟨0, by omega, rfl, rfl, HINY.out, HBY1.out, by omega⟩
            case round =>
              obtain ⟨j, hjk, rfl, rfl, hin, hlow, hyx⟩ := hrel
              have HJ := Lib.hid hin
              have HJL := Lib.hid hlow
              clear hin hlow
              by_cases hj : j < k
              · go_wp2_with fail
                refine (in_any n wr).mono ?_
                rintro e z1 ⟨rfl, hb⟩
                have HBZ := Lib.hid hb
                have hz1 := hb.size
                clear hb
                obtain ⟨z2, hz2⟩ : ∃ z2, z1.alloc (.cells #[.int .i64 1, .int .i64 n, .string ⟨#[]⟩] 29) = z2 := ⟨_, rfl⟩
                have HBZ2 := Lib.hid (show Below z1.heap.size z1 z2 by rw [← hz2]; exact (Below.refl _ _).alloc (Nat.le_refl _) _)
                have HSZ := Lib.hid (show SeesVals z2 (some ⟨z1.heap.size, 0, none⟩) 1 1 [ofV n] by rw [← hz2]; exact seesOneVal z1 (ofV n) _)
                have HZ2 := Lib.hid hz2
                clear hz2
                go_wp2_with (first | rw [HZ2.out])
                refine (put_in y0.heap.size y1.heap.size cA2 1 1 A2 (some ⟨z1.heap.size, 0, none⟩) ksSum (List.replicate j [ofV n]) [ofV n] z2 (HJ.out.keep (below_step HBZ.out HBZ2.out)) HSZ.out (ofV_wf HFN.out) (by rw [List.length_replicate]; omega) (fun _ ad e h => by injection e with e; rw [← e] at h; unfold Span at h; simp only at h; omega)).mono ?_
                rintro e z3 ⟨rfl, hin, hy⟩
                rw [sum_ok, errV_zero]
                rw [sum_add, ← List.replicate_succ'] at hin
                have HJ2 := Lib.hid hin
                have HJL2 := Lib.hid (show Below W.heap.size W z3 from (below_step (below_step HJL.out HBZ.out) HBZ2.out).trans (span_below hy (show W.heap.size ≤ y0.heap.size by omega) (by have := HJL.out.size; have := HBZ2.out.size; omega)))
                have HZS := Lib.hid (show y1.heap.size ≤ z3.heap.size by have := hy.size; have := HBZ2.out.size; omega)
                clear hin hy
                go_wp2_with fail
                go_roundw
                case rel => exact ⟨j + 1, by omega, rfl, by go_num, HJ2.out, HJL2.out, HZS.out⟩
                case measure => simp [intOf]; omega
              · obtain rfl : j = k := by omega
                go_wp2_with fail
                refine (result_in y0.heap.size y1.heap.size cA2 A2 ksSum (List.replicate j [ofV n]) wr HJ.out (by decide)).mono ?_
                rintro e z1 ⟨⟨T9, c9, rfl, hv9, -⟩, hb⟩
                have er : onesRes (onesOf ksSum (List.replicate j [ofV n])) (List.replicate j [ofV n]).length = if reckonErr [42] n j = 0 then (0, [ofV (reckonVal [42] n j)]) else (9, []) := by rw [List.length_replicate]; exact sum_res n j
                rw [er] at hv9 ⊢
                have HBZ := Lib.hid (below_step HJL.out hb)
                have RK := Lib.hid (fun w' => reckon_at ⟨#[42]⟩ [42] rfl n j w' HFN.out ⟨by unfold lo63; omega, by unfold hi63; omega⟩)
                clear hb er
                generalize reckonVal [42] n j = rv at hv9 RK ⊢
                generalize reckonErr [42] n j = re at hv9 RK ⊢
                by_cases hre : re = 0
                · subst hre
                  rw [if_pos rfl] at hv9 ⊢
                  rw [errV_zero] at RK ⊢
                  obtain ⟨g9, o9, u9, rfl, -, hu9, -, p9, -⟩ := hv9.at_ (k := 0) (show 0 < 1 by decide)
                  obtain rfl : ofV rv = u9 := by simpa using hu9
                  rw [Nat.zero_mul, Nat.add_zero] at p9
                  have q9 : z1.cell? ⟨g9, o9 + 1, none⟩ = some (.int .i64 rv) := p9
                  have hc9 : 1 ≤ c9 := hv9.2.2.1
                  have hm9 : c9 ≤ 2 ^ 63 - 1 := hv9.2.2.2.1
                  have er9 : (rv == rv) = true := by simp
                  clear hu9 hv9 p9
                  go_wp2_with fail
                  refine (RK.out z1).mono ?_
                  rintro e z2 ⟨rfl, rfl⟩
                  go_wp2_with fail
                  go_quiet (fail)
                  go_wp2_with fail
                  go_ret
                  exact ⟨rfl, below_drewN HBZ.out _⟩
                · rw [if_neg hre] at hv9 ⊢
                  rw [errV_ne hre] at RK
                  rw [errV_ne (by decide)]
                  clear hv9
                  go_wp2_with fail
                  refine (RK.out z1).mono ?_
                  rintro e z2 ⟨rfl, rfl⟩
                  go_wp2_with fail
                  go_quiet (fail)
                  go_wp2_with fail
                  go_ret
                  exact ⟨rfl, below_drewN HBZ.out _⟩

set_option maxRecDepth 100000 in
theorem contract (H : Type) (enc : TypeId × Value → H) (W : World) (base : Nat) (args : Array Value) (ds gs : List (DataW H)) (before : List MemPlace)
    (hval : ∀ (j : Nat) t v, Tryd.f3.params[j]? = some t → args[j]? = some v → Value.okWide Tryd.prog W .any base t v)
    (hW : DataW.Whole enc Tryd.prog Tryd.f3.params.toList Rows.aggEdgesSpec.vars false W args.toList ds gs before)
    (hsz : (DataW.weightsEach Tryd.prog (Tryd.f3.params.toList ++ (OpenSpec.ofChange Rows.aggEdgesSpec).bare.plain.varTypes Tryd.prog) (ds ++ gs)).all (· ≤ reachBytes) = true) (hL : laidMetH Tryd.prog Rows.aggEdgesRow.laid W) :
    Calls Tryd.prog 3 args W fun e W' => ∃ v, e = .returned v ∧ Rows.aggEdgesSpec.post enc Tryd.prog Tryd.f3 false true false false W args v W' := by
  have hW' := hW
  obtain ⟨p, q, hA0, hV, rfl, hfz, hnd⟩ := hW
  have hA : DataW.TrodAll enc Tryd.prog W 0 (fun _ => true) true Tryd.f3.params.toList args.toList ds p := hA0
  rw [Tryd.params3] at hA hval
  obtain ⟨v0, vs0, d0, ds0, p0, q0, hargs, rfl, rfl, h0, r0⟩ := trodAll_cons hA
  obtain ⟨v1, vs1, d1, ds1, p1, q1, rfl, rfl, rfl, h1, r1⟩ := trodAll_cons r0
  obtain ⟨v2, vs2, d2, ds2, p2, q2, rfl, rfl, rfl, h2, r2⟩ := trodAll_cons r1
  obtain ⟨rfl, rfl, rfl⟩ := trodAll_nil r2
  obtain rfl : args = #[v0, v1, v2] := by cases args; simp_all
  obtain ⟨rfl, rfl⟩ := trodVars_none hV
  have hv0 := hval 0 22 v0 rfl rfl
  obtain ⟨a1, rfl, rfl, rfl, w1⟩ := open_int Tryd.underlying3 (hval 1 3 v1 rfl rfl) h1
  obtain ⟨a2, rfl, rfl, rfl, w2⟩ := open_int Tryd.underlying3 (hval 2 3 v2 rfl rfl) h2
  obtain ⟨A0, m, c, l, rfl, hl, hf⟩ := open_ints (okWide_slice Tryd.underlying22 hv0) h0
  refine (walk A0 m c a1 a2 l W (errT_of_laid hL) hl hf (fits_of w1)).mono fun e W' ⟨he, hb⟩ => ?_
  subst he
  exact ⟨_, rfl, law_post laidOut Tryd.underlying4 (by kernel_rfl) rfl (by rw [Tryd.params3]; intro t ht; simp only [List.mem_cons, List.not_mem_nil, or_false] at ht; rcases ht with rfl | rfl | rfl; all_goals exact ⟨by kernel_rfl, of_decide_eq_true (by kernel_rfl)⟩) hW' rfl hb⟩

theorem reads (os : Os) {H : Type} (enc : TypeId × Value → H) : ∃ places, DataW.whole enc Tryd.prog ((laidWorld_err os).forCall (fun _ _ => 0) ⟨#[], #[.slice none 0 0, .int .i64 0, .int .i64 0], []⟩).memory Tryd.f3.params.toList Rows.aggEdgesSpec.vars false (#[.slice none 0 0, .int .i64 0, .int .i64 0] : Array Value).toList 8 = some ([.nil, .lit (.int .i64 0), .lit (.int .i64 0)], [], places) :=
  ⟨[], by kernel_rfl⟩

set_option maxRecDepth 100000 in
theorem lifted (os : Os) (started : os.Started) (H : Type) (enc : TypeId × Value → H) (F : Stop.Interp) :
    ReturnsInHanded {} Tryd.checked os 3 .any ((OpenSpec.ofChange Rows.aggEdgesSpec).preRow enc Tryd.prog Tryd.f3 Rows.aggEdgesRow.domain false Rows.aggEdgesRow.laid) (((OpenSpec.ofChange Rows.aggEdgesSpec).at F).post enc Tryd.prog Tryd.f3 false true false false) := by
  obtain ⟨places, hx⟩ := reads os enc
  refine returnsInHanded_of_row (C := Tryd.checked) (s := OpenSpec.ofChange Rows.aggEdgesSpec) own started (by kernel_rfl) Tryd.func3
    (witness_row_at (enc := enc) (C := Tryd.checked) false (laidWorld_err os) #[.slice none 0 0, .int .i64 0, .int .i64 0] rfl (by kernel_rfl) (by kernel_rfl) (by kernel_rfl)
      (OpenSpec.preRow_of_cond 8 hx (by kernel_rfl) (fun k hk => by cases hk) (by kernel_rfl) (laid_met_err os _))) ?_
  intro W base args ds gs before hval hW _ _ hsz hL _ _
  exact contract H enc W base args ds gs before hval hW hsz hL

theorem said : Rows.AggEdgesSaid :=
  OpenClaim.holds_of_cond 3 Tryd.f3 rfl rfl rfl rfl rfl rfl rfl ⟨rfl, rfl, rfl, rfl, rfl⟩ rfl rfl rfl rfl rfl (by kernel_rfl) Tryd.func3 (by kernel_rfl)
    (of_decide_eq_true (by kernel_rfl)) (by unfold Func.isWrapper; first | (rw [if_pos (by decide +kernel)]; kernel_rfl) | (rw [if_neg (by decide +kernel)]; exact ⟨rfl, rfl⟩))
    (fun os started H enc _ F => by rw [OpenClaim.pre_eq_preRow]; exact lifted os started H enc F)

theorem plain (f : FuncId) (fn : Func) (hf : Tryd.pinned.checked.prog.funcNamed "sluicebook/sluicelaw4.AggEdges" = some f) (hfn : Tryd.pinned.checked.prog.funcs[f]? = some fn) :
    true = Tryd.pinned.checked.prog.looks [] ∧ ∀ (j : Nat) t, fn.params[j]? = some t → Tryd.pinned.checked.prog.wantsStandIn t = false := by
  obtain rfl : f = 3 := Option.some.inj ((show Tryd.prog.funcNamed "sluicebook/sluicelaw4.AggEdges" = some 3 by kernel_rfl).symm.trans hf) |>.symm
  obtain rfl : fn = Tryd.f3 := (Option.some.inj (Tryd.func3.symm.trans hfn)).symm
  refine ⟨by kernel_rfl, fun j t ht => ?_⟩
  rw [Tryd.params3] at ht
  have hm := Array.mem_of_getElem? ht
  simp only [List.mem_toArray, List.mem_cons, List.not_mem_nil, or_false] at hm
  rcases hm with rfl | rfl | rfl
  · exact (show Tryd.prog.wantsStandIn 22 = false by kernel_rfl)
  · exact (show Tryd.prog.wantsStandIn 3 = false by kernel_rfl)
  · exact (show Tryd.prog.wantsStandIn 3 = false by kernel_rfl)

theorem card : Rows.AggEdgesCardSaid :=
  Claim7.holds_tied_plain_at .later [] _ _ _ _ said (fun _ h => by cases h) (by kernel_rfl) (fun _ h => by cases h) aggEdges_row_tie rfl ⟨rfl, rfl⟩ (by kernel_rfl) rfl plain (by kernel_rfl)
#print axioms card
end Go.Proofs.YtjnlonemnjljiaaDoor.aggEdges
