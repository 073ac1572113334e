/- agg.One.result, (*Acc).Result, walked: what the aggregates come to. -/
import Derived.Test.YtjnlonemnjljiaaDoorAggSame
import Derived.Test.YtjnlonemnjljiaaDoorOwn3
import Derived.Deep.CutRange
namespace Go.Proofs.YtjnlonemnjljiaaDoor
open Go.ChangeShapes Go.WideShapes Go.ChangeAt Go.RowKit

def ResSays (o : One) (n : Nat) (w : World) (e : Ending) (w' : World) : Prop := e = .returned (.tuple #[valV (oneRes o n).2, errV (oneRes o n).1]) ∧ Below w.heap.size w w'
theorem box_new2 (w : World) (o : One) : ∃ w0, (w.alloc (.cells #[.string o.what, .int .i64 o.type, .int .i64 (hiOf o.sum), .int .u64 (loOf o.sum), .int .i64 o.edge.type, .int .i64 o.edge.n, .string o.edge.s] 87)).alloc (.cells #[.int .i64 0, .int .i64 0, .string ⟨#[]⟩] 29) = w0 ∧
    Below w.heap.size w w0 ∧ Own3 w0 (w.heap.size + 1) noVal ∧ (w0.cell? ⟨w.heap.size, 0, none⟩ = some (.string o.what) ∧ w0.cell? ⟨w.heap.size, 2, none⟩ = some (.int .i64 (hiOf o.sum)) ∧ w0.cell? ⟨w.heap.size, 3, none⟩ = some (.int .u64 (loOf o.sum)) ∧
    w0.cell? ⟨w.heap.size, 4, none⟩ = some (.int .i64 o.edge.type) ∧ w0.cell? ⟨w.heap.size, 5, none⟩ = some (.int .i64 o.edge.n) ∧ w0.cell? ⟨w.heap.size, 6, none⟩ = some (.string o.edge.s)) := by
  have h1 := heap_alloc_new w (.cells #[.string o.what, .int .i64 o.type, .int .i64 (hiOf o.sum), .int .u64 (loOf o.sum), .int .i64 o.edge.type, .int .i64 o.edge.n, .string o.edge.s] 87)
  have h2 := own3_new (w.alloc (.cells #[.string o.what, .int .i64 o.type, .int .i64 (hiOf o.sum), .int .u64 (loOf o.sum), .int .i64 o.edge.type, .int .i64 o.edge.n, .string o.edge.s] 87)) noVal
  have hs : (w.alloc (.cells #[.string o.what, .int .i64 o.type, .int .i64 (hiOf o.sum), .int .u64 (loOf o.sum), .int .i64 o.edge.type, .int .i64 o.edge.n, .string o.edge.s] 87)).heap.size = w.heap.size + 1 := by simp
  rw [hs] at h2
  obtain ⟨x0, -, x2, x3, x4, x5, x6⟩ := box7 (box7_keep h1 ((Below.refl _ _).alloc (Nat.le_refl _) (.cells #[.int .i64 0, .int .i64 0, .string ⟨#[]⟩] 29)))
  exact ⟨_, rfl, ((Below.refl _ _).alloc (Nat.le_refl _) _).alloc (by simp) _, h2, x0, x2, x3, x4, x5, x6⟩
set_option maxHeartbeats 2000000 in
set_option maxRecDepth 100000 in
theorem result_any (o : One) (n : Nat) (w : World) :
    Calls Tryd.prog 31 #[oneV o, .int .i64 n] w (ResSays o n w) := by
  obtain ⟨w0, hw0, hb0, ho0, x0, x2, x3, x4, x5, x6⟩ := box_new2 w o
  have HW0 := Lib.hid hw0
  have HB0 := Lib.hid hb0
  have HO0 := Lib.hid ho0
  obtain ⟨o0, o1, o2, z0, z1, z2, hlt⟩ := ho0.cells
  have hl0 : w.heap.size < w0.heap.size := by omega
  have HOR := Lib.hid (show oneRes o n = if isCount o.what then (0, ofV n) else if isSum o.what then (if fits64 o.sum then (0, ofV o.sum) else (9, noVal)) else if n = 0 then (5, noVal) else (0, o.edge) from rfl)
  have TV := Lib.hid (fun w' => value_any o.sum w')
  unfold oneV
  clear hw0 hb0 ho0
  by_cases hc : isCount o.what
  · have e2 : (o.what.toList == [99, 111, 117, 110, 116]) = true := by rw [Lib.toList_data]; unfold isCount at hc; rw [hc]; rfl
    rw [if_pos hc] at HOR
    clear hc o0 o1 o2 z0 z1 z2 hlt
    go_enter Tryd.func31, Tryd.ntmps31
    go_wp2_with (first | rw [HW0.out])
    refine (of_any _ _).mono ?_
    rintro e w3 ⟨rfl, hb3⟩
    have HO3 := Lib.hid (HO0.out.keep hb3)
    have HB3 := Lib.hid (below_step HB0.out hb3)
    clear hb3
    obtain ⟨o0, o1, o2, z0, z1, z2, hlt⟩ := HO3.out.cells
    unfold valV
    go_wp2_with fail
    have HO4 := own3_set HO3.out (ofV n).type (ofV n).n (ofV n).s
    have HB4 := Lib.hid (below_set3 HB3.out (show w.heap.size ≤ w.heap.size + 1 by omega) (ofV n).type (ofV n).n (ofV n).s)
    generalize ((w3.setCell ⟨w.heap.size + 1, 0, none⟩ (.int .i64 (ofV n).type)).setCell ⟨w.heap.size + 1, 1, none⟩ (.int .i64 (ofV n).n)).setCell ⟨w.heap.size + 1, 2, none⟩ (.string (ofV n).s) = w4 at HO4 HB4 ⊢
    clear o0 o1 o2 z0 z1 z2 hlt
    obtain ⟨o0, o1, o2, z0, z1, z2, hlt⟩ := HO4.cells
    unfold ResSays
    rw [HOR.out]
    exact bodyPost_ret (v := .tuple #[valV (ofV n), errV 0]) (by simp [results, Tryd.results31, go_sem, o0, o1, o2, valV, errV]) rfl ⟨rfl, HB4.out⟩
  · have e2 : (o.what.toList == [99, 111, 117, 110, 116]) = false := by rw [Lib.toList_data]; exact beq_eq_false_iff_ne.2 hc
    rw [if_neg hc] at HOR
    clear hc
    by_cases hs : isSum o.what
    · have e3 : (o.what.toList == [115, 117, 109]) = true := by rw [Lib.toList_data]; unfold isSum at hs; rw [hs]; rfl
      rw [if_pos hs] at HOR
      unfold ValueSays totV at TV
      clear hs
      by_cases hf : fits64 o.sum
      · rw [if_pos hf] at HOR TV
        clear hf o0 o1 o2 z0 z1 z2 hlt
        go_enter Tryd.func31, Tryd.ntmps31
        go_wp2_with (first | rw [HW0.out])
        refine (TV.out _).mono ?_
        rintro e w2 ⟨rfl, hb2⟩
        have HO2 := Lib.hid (HO0.out.keep hb2)
        have HB2 := Lib.hid (below_step HB0.out hb2)
        clear hb2
        go_wp2_with fail
        refine (of_any _ _).mono ?_
        rintro e w3 ⟨rfl, hb3⟩
        have HO3 := Lib.hid (HO2.out.keep hb3)
        have HB3 := Lib.hid (below_step HB2.out hb3)
        clear hb3
        obtain ⟨o0, o1, o2, z0, z1, z2, hlt⟩ := HO3.out.cells
        unfold valV
        go_wp2_with fail
        have HO4 := own3_set HO3.out (ofV o.sum).type (ofV o.sum).n (ofV o.sum).s
        have HB4 := Lib.hid (below_set3 HB3.out (show w.heap.size ≤ w.heap.size + 1 by omega) (ofV o.sum).type (ofV o.sum).n (ofV o.sum).s)
        generalize ((w3.setCell ⟨w.heap.size + 1, 0, none⟩ (.int .i64 (ofV o.sum).type)).setCell ⟨w.heap.size + 1, 1, none⟩ (.int .i64 (ofV o.sum).n)).setCell ⟨w.heap.size + 1, 2, none⟩ (.string (ofV o.sum).s) = w4 at HO4 HB4 ⊢
        clear o0 o1 o2 z0 z1 z2 hlt
        obtain ⟨o0, o1, o2, z0, z1, z2, hlt⟩ := HO4.cells
        unfold ResSays
        rw [HOR.out]
        exact bodyPost_ret (v := .tuple #[valV (ofV o.sum), errV 0]) (by simp [results, Tryd.results31, go_sem, o0, o1, o2, valV, errV]) rfl ⟨rfl, HB4.out⟩
      · rw [if_neg hf] at HOR TV
        clear hf o0 o1 o2 z0 z1 z2 hlt
        go_enter Tryd.func31, Tryd.ntmps31
        go_wp2_with (first | rw [HW0.out])
        refine (TV.out _).mono ?_
        rintro e w3 ⟨rfl, hb3⟩
        have HO3 := Lib.hid (HO0.out.keep hb3)
        have HB3 := Lib.hid (below_step HB0.out hb3)
        clear hb3
        obtain ⟨o0, o1, o2, z0, z1, z2, hlt⟩ := HO3.out.cells
        go_wp2_with fail
        have HO4 := own3_set HO3.out (0) (0) (⟨#[]⟩)
        have HB4 := Lib.hid (below_set3 HB3.out (show w.heap.size ≤ w.heap.size + 1 by omega) (0) (0) (⟨#[]⟩))
        generalize ((w3.setCell ⟨w.heap.size + 1, 0, none⟩ (.int .i64 (0))).setCell ⟨w.heap.size + 1, 1, none⟩ (.int .i64 (0))).setCell ⟨w.heap.size + 1, 2, none⟩ (.string (⟨#[]⟩)) = w4 at HO4 HB4 ⊢
        clear o0 o1 o2 z0 z1 z2 hlt
        obtain ⟨o0, o1, o2, z0, z1, z2, hlt⟩ := HO4.cells
        unfold ResSays
        rw [HOR.out]
        exact bodyPost_ret (v := .tuple #[valV (noVal), errV 9]) (by simp [results, Tryd.results31, go_sem, o0, o1, o2, valV, errV, noVal]) rfl ⟨rfl, HB4.out⟩
    · have e3 : (o.what.toList == [115, 117, 109]) = false := by rw [Lib.toList_data]; exact beq_eq_false_iff_ne.2 hs
      rw [if_neg hs] at HOR
      clear hs TV
      by_cases h0 : n = 0
      · subst h0
        rw [if_pos rfl] at HOR
        go_enter Tryd.func31, Tryd.ntmps31
        go_wp2_with (first | rw [HW0.out])
        have HO4 := own3_set HO0.out (0) (0) (⟨#[]⟩)
        have HB4 := Lib.hid (below_set3 HB0.out (show w.heap.size ≤ w.heap.size + 1 by omega) (0) (0) (⟨#[]⟩))
        generalize ((w0.setCell ⟨w.heap.size + 1, 0, none⟩ (.int .i64 (0))).setCell ⟨w.heap.size + 1, 1, none⟩ (.int .i64 (0))).setCell ⟨w.heap.size + 1, 2, none⟩ (.string (⟨#[]⟩)) = w4 at HO4 HB4 ⊢
        clear o0 o1 o2 z0 z1 z2 hlt
        obtain ⟨o0, o1, o2, z0, z1, z2, hlt⟩ := HO4.cells
        unfold ResSays
        rw [HOR.out]
        exact bodyPost_ret (v := .tuple #[valV (noVal), errV 5]) (by simp [results, Tryd.results31, go_sem, o0, o1, o2, valV, errV, noVal]) rfl ⟨rfl, HB4.out⟩
      · have e4 : ((n : Int) == 0) = false := by simp; omega
        rw [if_neg h0] at HOR
        clear h0
        go_enter Tryd.func31, Tryd.ntmps31
        go_wp2_with (first | rw [HW0.out])
        have HO4 := own3_set HO0.out (o.edge.type) (o.edge.n) (o.edge.s)
        have HB4 := Lib.hid (below_set3 HB0.out (show w.heap.size ≤ w.heap.size + 1 by omega) (o.edge.type) (o.edge.n) (o.edge.s))
        generalize ((w0.setCell ⟨w.heap.size + 1, 0, none⟩ (.int .i64 (o.edge.type))).setCell ⟨w.heap.size + 1, 1, none⟩ (.int .i64 (o.edge.n))).setCell ⟨w.heap.size + 1, 2, none⟩ (.string (o.edge.s)) = w4 at HO4 HB4 ⊢
        clear o0 o1 o2 z0 z1 z2 hlt
        obtain ⟨o0, o1, o2, z0, z1, z2, hlt⟩ := HO4.cells
        unfold ResSays
        rw [HOR.out]
        exact bodyPost_ret (v := .tuple #[valV (o.edge), errV 0]) (by simp [results, Tryd.results31, go_sem, o0, o1, o2, valV, errV]) rfl ⟨rfl, HB4.out⟩

theorem valsCells_more (l : List Val) (v : Val) : valsCells (l ++ [v]) = valsCells l ++ (#[Value.int .i64 v.type, .int .i64 v.n, .string v.s] : Array Value).toList := by simp [valsCells, valCells]
theorem valSlice' : SliceTy Tryd.prog 36 29 (.agg #[.int .i64 0, .int .i64 0, .string ⟨#[]⟩]) 3 32 := SliceTy.of Tryd.underlying36 (by kernel_rfl) rfl (by decide) (by decide)
theorem onesRes_err {l : List One} {n j : Nat} {o : One} (h : l[j]? = some o) (hk : (oneRes o n).1 ≠ 0) : (onesRes (l.drop j) n) = ((oneRes o n).1, []) := by
  obtain ⟨h1, rfl⟩ := List.getElem?_eq_some_iff.1 h
  rw [List.drop_eq_getElem_cons h1, onesRes, if_pos hk]
theorem onesRes_ok {l : List One} {n j : Nat} {o : One} (h : l[j]? = some o) (hk : (oneRes o n).1 = 0) : (onesRes (l.drop j) n) = if (onesRes (l.drop (j + 1)) n).1 ≠ 0 then ((onesRes (l.drop (j + 1)) n).1, []) else (0, (oneRes o n).2 :: (onesRes (l.drop (j + 1)) n).2) := by
  obtain ⟨h1, rfl⟩ := List.getElem?_eq_some_iff.1 h
  rw [List.drop_eq_getElem_cons h1, onesRes, if_neg (by simpa using hk)]
/-- What is left, with what is there. -/
def resWith (acc : List Val) (r : Int × List Val) : Int × List Val := if r.1 ≠ 0 then (r.1, []) else (0, acc ++ r.2)
theorem resWith_err {acc : List Val} {k : Int} (h : k ≠ 0) : resWith acc (k, []) = (k, []) := if_pos h
theorem resWith_ok (acc : List Val) (v : Val) (r : Int × List Val) : resWith acc (if r.1 ≠ 0 then (r.1, []) else (0, v :: r.2)) = resWith (acc ++ [v]) r := by
  unfold resWith
  by_cases h : r.1 = 0
  · simp [h]
  · simp [h]
theorem resWith_nil (acc : List Val) : resWith acc (0, []) = (0, acc) := by simp [resWith]
theorem resWith_start (l : List One) (n : Nat) : resWith [] (onesRes l n) = onesRes l n := by
  unfold resWith
  cases l with
  | nil => rfl
  | cons o l =>
    rw [onesRes]
    split
    · simp_all
    · split
      · simp_all
      · simp
def ResultSays (l : List One) (n : Nat) (w : World) (e : Ending) (w' : World) : Prop :=
  (∃ A' c', e = .returned (.tuple #[.slice A' (onesRes l n).2.length c', errV (onesRes l n).1]) ∧ SeesVals w' A' (onesRes l n).2.length c' (onesRes l n).2 ∧ ∀ ad, A' = some ad → w.heap.size ≤ ad.block) ∧ Below w.heap.size w w'
theorem own_far {w : World} {B e size : Nat} {A : Option Addr} {n c : Nat} {xs : List Value} (h : w.ownsRow B e size (.slice A n c) n xs) : ∀ ad, A = some ad → B ≤ ad.block := by
  intro ad e
  rcases h.2 with ⟨e2, _⟩ | ⟨g, cap, cur, e2, hg, _⟩
  · injection e2 with e3; rw [e3] at e; cases e
  · injection e2 with e3; rw [e3] at e; injection e with e; rw [← e]; exact hg
set_option maxHeartbeats 4000000 in
set_option maxRecDepth 100000 in
theorem resultAll_any (B p c n : Nat) (A : Option Addr) (l : List One) (w : World) (h : AccAt w B p A c l n) (hlen : l.length ≤ 1000) :
    Calls Tryd.prog 10 #[.pointer (some ⟨p, 0, none⟩)] w (ResultSays l n w) := by
  have HA := Lib.hid h
  obtain ⟨k0, -⟩ := h.cells
  have hlx := h.sees.2.2.1
  have hlc := h.sees.2.1
  unfold maxLen at hlx
  have HP := Lib.hid h.lt
  generalize hL : l.length = L at *
  have HL := Lib.hid hL
  clear h hL
  go_enter Tryd.func10, Tryd.ntmps10
  go_wp2_with fail
  go_loopw [4, 14] (fun v i wr => ∃ (j : Nat) (acc : List Val), j ≤ L ∧ i = .int .i64 j ∧ acc.length = j ∧ wr.ownsRow w.heap.size 29 3 v j (valsCells acc) ∧ Below w.heap.size w wr ∧ onesRes l n = resWith acc (onesRes (l.drop j) n)) (fun _ i _ => L - (intOf i).toNat)
  case atStart => exact ⟨0, [], by omega, rfl, rfl, World.ownsRow_nil _ _ _ _, Below.refl _ _, by rw [List.drop_zero, resWith_start]⟩
  case round =>
    obtain ⟨j, acc, hj, rfl, hal, hown, hb, hres⟩ := hrel
    obtain ⟨vA, vC, hvv⟩ := own_shape hown
    have HV0 := Lib.hid hvv
    have HOW := Lib.hid hown
    have HBR := Lib.hid hb
    have HRES := Lib.hid hres
    have HAL := Lib.hid hal
    have HAR := Lib.hid (HA.out.keep hb)
    have hpl : p < wr.heap.size := Nat.lt_of_lt_of_le HP.out hb.size
    obtain ⟨-, k1⟩ := HAR.out.cells
    have hwr := hb.size
    clear hown hb hres hal hvv
    by_cases hlj : j < L
    · obtain ⟨o, ho⟩ : ∃ o, l[j]? = some o := ⟨_, List.getElem?_eq_getElem (by rw [HL.out]; exact hlj)⟩
      obtain ⟨g, rfl, -, -, hgl, hones⟩ := HAR.out.at_ ho
      obtain ⟨⟨a0, a1, a2, a3, a4, a5, a6⟩, -⟩ := OnesAt.facts hones ho
      obtain ⟨w1, hw1⟩ : ∃ w1, wr.alloc (.cells #[.string o.what, .int .i64 o.type, .int .i64 (hiOf o.sum), .int .u64 (loOf o.sum), .int .i64 o.edge.type, .int .i64 o.edge.n, .string o.edge.s] 87) = w1 := ⟨_, rfl⟩
      have hb1 : Below wr.heap.size wr w1 := by rw [← hw1]; exact (Below.refl _ _).alloc (Nat.le_refl _) _
      have hx0 := heap_alloc_new wr (.cells #[.string o.what, .int .i64 o.type, .int .i64 (hiOf o.sum), .int .u64 (loOf o.sum), .int .i64 o.edge.type, .int .i64 o.edge.n, .string o.edge.s] 87)
      rw [hw1] at hx0
      obtain ⟨x0, x1, x2, x3, x4, x5, x6⟩ := box7 hx0
      have hl1 : wr.heap.size < w1.heap.size := (Array.getElem?_eq_some_iff.1 hx0).1
      have y1 := (hb1.cell (p := ⟨p, 1, none⟩) hpl).trans k1
      have hp1 : p < w1.heap.size := Nat.lt_of_lt_of_le hpl hb1.size
      have HW1 := Lib.hid hw1
      have HB1 := Lib.hid hb1
      have HO := Lib.hid ho
      have HER := Lib.hid (onesRes_err (n := n) ho)
      have HOK := Lib.hid (onesRes_ok (n := n) ho)
      have b1' : Below w1.heap.size w1 w1.drew := (Below.refl _ _).drew
      have b2' : Below w1.heap.size w1 (w1.alloc (.cells #[.int .i64 0, .int .i64 0, .string ⟨#[]⟩] 29)).drew := ((Below.refl _ _).alloc (Nat.le_refl _) _).drew
      have HB1' := Lib.hid b1'
      have HB2' := Lib.hid b2'
      have HZ2 := Lib.hid (show Own3 (w1.alloc (.cells #[.int .i64 0, .int .i64 0, .string ⟨#[]⟩] 29)).drew w1.heap.size noVal from own3_new w1 noVal)
      have T1 := Lib.hid (result_any o n w1.drew)
      have T2 := Lib.hid (result_any o n (w1.alloc (.cells #[.int .i64 0, .int .i64 0, .string ⟨#[]⟩] 29)).drew)
      generalize hrr : oneRes o n = rr at HER HOK
      obtain ⟨rk, rv⟩ := rr
      unfold ResSays oneV at T1 T2
      rw [hrr] at T1 T2
      clear k1 hrr hones ho hw1 hb1 hx0 b1' b2'
      go_wp2_with (first | rw [HW1.out])
      go_cut [7, 8] from 16 to 34 (fun s7 s8 wx => ∃ r : Nat, s7 = .pointer (some ⟨r, 0, none⟩) ∧ Own3 wx r rv ∧ s8 = errV rk ∧ Below w1.heap.size w1 wx)
      case first =>
        generalize hde : errV rk = de at T1 T2
        have HDE := Lib.hid hde
        clear hde
        go_region_held3 (fun w' => w'.cell? ⟨wr.heap.size, 0, none⟩ = some (.string o.what) ∧ w'.cell? ⟨wr.heap.size, 1, none⟩ = some (.int .i64 o.type) ∧ w'.cell? ⟨wr.heap.size, 2, none⟩ = some (.int .i64 (hiOf o.sum)) ∧ w'.cell? ⟨wr.heap.size, 3, none⟩ = some (.int .u64 (loOf o.sum)) ∧ w'.cell? ⟨wr.heap.size, 4, none⟩ = some (.int .i64 o.edge.type) ∧ w'.cell? ⟨wr.heap.size, 5, none⟩ = some (.int .i64 o.edge.n) ∧ w'.cell? ⟨wr.heap.size, 6, none⟩ = some (.string o.edge.s) ∧ w'.cell? ⟨p, 1, none⟩ = some (.int .i64 n)) (first | go_keep | exact ⟨q0, q1, q2, q3, q4, q5, q6, q7⟩ | exact ⟨r0, r1, r2, r3, r4, r5, r6, r7⟩) (first
            | (go_at_call 31; ((with_reducible refine (T1.out).mono ?_); rintro e w4 ⟨rfl, hb4⟩; have HB4 := Lib.hid (below_step HB1'.out hb4); obtain ⟨q0, q1, q2, q3, q4, q5, q6⟩ := seven_keep HB4.out hl1 ⟨x0, x1, x2, x3, x4, x5, x6⟩; have q7 := (HB4.out.cell (p := ⟨p, 1, none⟩) hp1).trans y1; clear hb4; unfold valV))
            | (go_at_call 31; ((with_reducible refine (T2.out).mono ?_); rintro e w4 ⟨rfl, hb4⟩; have HB4 := Lib.hid (below_step HB2'.out hb4); have HZ4 := Lib.hid (HZ2.out.keep hb4); obtain ⟨o0, o1, o2, f0, f1, f2, fl⟩ := HZ4.out.cells; obtain ⟨q0, q1, q2, q3, q4, q5, q6⟩ := seven_keep HB4.out hl1 ⟨x0, x1, x2, x3, x4, x5, x6⟩; have q7 := (HB4.out.cell (p := ⟨p, 1, none⟩) hp1).trans y1; have r0 := (cell_set3 (w := w4) (g := wr.heap.size) (b := w1.heap.size) (Nat.ne_of_lt hl1) (.int .i64 rv.type) (.int .i64 rv.n) (.string rv.s) 0).trans q0; have r1 := (cell_set3 (w := w4) (g := wr.heap.size) (b := w1.heap.size) (Nat.ne_of_lt hl1) (.int .i64 rv.type) (.int .i64 rv.n) (.string rv.s) 1).trans q1; have r2 := (cell_set3 (w := w4) (g := wr.heap.size) (b := w1.heap.size) (Nat.ne_of_lt hl1) (.int .i64 rv.type) (.int .i64 rv.n) (.string rv.s) 2).trans q2; have r3 := (cell_set3 (w := w4) (g := wr.heap.size) (b := w1.heap.size) (Nat.ne_of_lt hl1) (.int .i64 rv.type) (.int .i64 rv.n) (.string rv.s) 3).trans q3; have r4 := (cell_set3 (w := w4) (g := wr.heap.size) (b := w1.heap.size) (Nat.ne_of_lt hl1) (.int .i64 rv.type) (.int .i64 rv.n) (.string rv.s) 4).trans q4; have r5 := (cell_set3 (w := w4) (g := wr.heap.size) (b := w1.heap.size) (Nat.ne_of_lt hl1) (.int .i64 rv.type) (.int .i64 rv.n) (.string rv.s) 5).trans q5; have r6 := (cell_set3 (w := w4) (g := wr.heap.size) (b := w1.heap.size) (Nat.ne_of_lt hl1) (.int .i64 rv.type) (.int .i64 rv.n) (.string rv.s) 6).trans q6; have r7 := (cell_set3 (w := w4) (g := p) (b := w1.heap.size) (Nat.ne_of_lt hp1) (.int .i64 rv.type) (.int .i64 rv.n) (.string rv.s) 1).trans q7; clear hb4; unfold valV)))
        all_goals
          go_wp2_with fail
          go_meet
          rw [HDE.out]
          first
            | exact ⟨_, rfl, own3_new w4 rv, rfl, below_step HB4.out ((Below.refl _ _).alloc (Nat.le_refl _) _)⟩
            | exact ⟨_, rfl, own3_set HZ4.out rv.type rv.n rv.s, rfl, below_set3 HB4.out (Nat.le_refl _) _ _ _⟩
      case rest =>
        obtain ⟨r, rfl, hor, rfl, hbc⟩ := hcut
        have HOC := Lib.hid hor
        have hbc2 := below_step HB1.out hbc
        have HBC := Lib.hid (HBR.out.trans (hbc2.mono hwr))
        obtain ⟨z0, z1, z2, -, -, -, zl⟩ := hor.cells
        have hown2 := own_keep HOW.out hbc2
        have hb2 := HBR.out.trans (hbc2.mono hwr)
        clear hor hbc hbc2
        by_cases hk : rk = 0
        · have HRO := Lib.hid (HRES.out.trans ((congrArg (resWith acc) (HOK.out hk)).trans (resWith_ok acc rv _)))
          subst hk
          rw [errV_zero]
          go_wp2_with (first
            | (at_builtin; refine wpList_append_one valSlice' rfl _ _ rfl rfl rfl hown2 hb2 (Nat.le_refl _) rfl (by intro u hu; simp at hu; rcases hu with rfl | rfl | rfl <;> rfl) (by omega) ?_; intro v1 w6 hown6 hb6 _))
          go_roundw
          case rel => exact ⟨j + 1, acc ++ [rv], by omega, by go_num, by simp [HAL.out], by rw [valsCells_more]; exact hown6, hb6, HRO.out⟩
          case measure => simp [intOf]; omega
        · have HRO := Lib.hid (HRES.out.trans ((congrArg (resWith acc) (HER.out hk)).trans (resWith_err hk)))
          have HK := Lib.hid hk
          rw [errV_ne hk]
          clear hk hown2 hb2
          go_wp2_with fail
          go_ret2
          refine ⟨⟨none, 0, ?_, ?_, fun ad e => by cases e⟩, HBC.out⟩
          · rw [HRO.out, errV_ne HK.out]; rfl
          · rw [HRO.out]; exact ⟨rfl, Sees.nil _ 3⟩
    · obtain rfl : j = L := by omega
      have HRO := Lib.hid (show onesRes l n = (0, acc) by rw [HRES.out, List.drop_of_length_le (by rw [HL.out]; omega)]; exact resWith_nil acc)
      have HV := HV0.out
      subst HV
      have hs := Sees.of_own HOW.out
      obtain ⟨A', c', e', hs⟩ := hs
      injection e' with e1 e2 e3
      subst e1 e3
      have HS := Lib.hid hs
      have HFAR := Lib.hid (own_far HOW.out)
      clear hs
      go_wp2_with fail
      go_ret2
      refine ⟨⟨vA, vC, ?_, ?_, HFAR.out⟩, HBR.out⟩
      · rw [HRO.out, HAL.out]; rfl
      · rw [HRO.out]; exact ⟨rfl, by rw [HAL.out]; exact HS.out⟩
end Go.Proofs.YtjnlonemnjljiaaDoor
