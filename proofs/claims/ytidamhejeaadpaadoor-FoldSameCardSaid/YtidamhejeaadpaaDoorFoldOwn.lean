/- fold.own, walked: an expression laid anew. -/
import Derived.Test.YtidamhejeaadpaaDoorFoldValue
import Derived.Deep.RegionLaw
namespace Go.Proofs.YtidamhejeaadpaaDoor
open Go.ChangeShapes Go.WideShapes Go.ChangeAt Go.RowKit

def OwnSays (e : Ex) (w : World) (r : Ending) (w' : World) : Prop := ∃ x, r = .returned (exV x) ∧ SeesS (fun b => w.heap.size ≤ b) w' x ∧ strip x = strip e ∧ Below w.heap.size w w'
def OwnAt (m : Nat) : Prop := ∀ e : Ex, SizeOf.sizeOf e ≤ m → nodesErr e = 0 → ∀ w : World, SeesEx w e → Calls Tryd.prog 40 #[exV e] w (OwnSays e w)
theorem set_next' {l xs : List Ex} {k : Nat} {y : Ex} (hk : xs.length = k) (hlt : k < l.length) : (xs ++ l.drop k).set k y = (xs ++ [y]) ++ l.drop (k + 1) := by
  rw [List.set_append_right _ _ (by omega), hk, Nat.sub_self, List.drop_eq_getElem_cons hlt, List.set_cons_zero]; simp
theorem get_next' {l xs : List Ex} {k : Nat} {x : Ex} (hk : xs.length = k) (hx : l[k]? = some x) : (xs ++ l.drop k)[k]? = some x := by
  rw [List.getElem?_append_right (by omega), hk, Nat.sub_self, List.getElem?_drop, Nat.add_zero, hx]
set_option maxHeartbeats 16000000 in
set_option maxRecDepth 100000 in
theorem own_step (m : Nat) (ih : OwnAt m) (op name : ByteArray) (v : Val) (A : Option Addr) (c : Nat) (args : List Ex) (pos : Int) (hm : SizeOf.sizeOf (Ex.mk op name v A c args pos) ≤ m + 1)
    (hg : nodesErr (.mk op name v A c args pos) = 0) (w : World) (he : SeesEx w (.mk op name v A c args pos)) :
    Calls Tryd.prog 40 #[exV (.mk op name v A c args pos)] w (OwnSays (.mk op name v A c args pos) w) := by
  have IH := Lib.hid ih
  obtain ⟨n1, n2⟩ := nodesErr_parts hg
  have HGA := Lib.hid (fun a (ha : a ∈ args) => nodesErrs_all n2 a ha)
  have HM := Lib.hid (fun a (ha : a ∈ args) => show SizeOf.sizeOf a ≤ m by have := ex_lt (e := .mk op name v A c args pos) ha; omega)
  have HE := Lib.hid he
  obtain ⟨w0, hw0, ho, hb, -⟩ := box_ex w (.mk op name v A c args pos)
  obtain ⟨w1, hw1⟩ : ∃ w1, w0.alloc (.cells #[.string ⟨#[]⟩, .string ⟨#[]⟩, .int .i64 0, .int .i64 0, .string ⟨#[]⟩, .slice none 0 0, .int .i64 0] 48) = w1 := ⟨_, rfl⟩
  have hb1 := belowNew' w0 (.cells #[.string ⟨#[]⟩, .string ⟨#[]⟩, .int .i64 0, .int .i64 0, .string ⟨#[]⟩, .slice none 0 0, .int .i64 0] 48)
  have hz : Own7 (w0.alloc (.cells #[.string ⟨#[]⟩, .string ⟨#[]⟩, .int .i64 0, .int .i64 0, .string ⟨#[]⟩, .slice none 0 0, .int .i64 0] 48)) w0.heap.size (.mk ⟨#[]⟩ ⟨#[]⟩ noVal none 0 [] 0) := own7_new w0 (.mk ⟨#[]⟩ ⟨#[]⟩ noVal none 0 [] 0)
  rw [hw1] at hb1 hz
  have HX1 := Lib.hid (ho.keep hb1)
  have HZ1 := Lib.hid hz
  have HB1 := Lib.hid (below_step hb hb1)
  have HLE := Lib.hid hb.size
  have HSZ := Lib.hid (show w.heap.size < w0.heap.size from ho.lt)
  have HW1 := Lib.hid hw1
  have hcap : args.length ≤ c := he.parts.1.2.1
  have hmax : c ≤ maxLen := he.parts.1.2.2.1
  unfold maxLen at hmax
  have h3 : args.length ≤ 3 := (nodeErr_len n1).2.2
  have TC := Lib.hid (cloneEx_any A args.length c args w1 ((he.keep HB1.out).parts.1) (by omega))
  unfold CloneExSays at TC
  obtain ⟨n, hn⟩ : ∃ n, args.length = n := ⟨_, rfl⟩
  have HLn := Lib.hid hn
  obtain ⟨-, -, -, -, -, b5, -⟩ := HX1.out.cells
  replace b5 : w1.cell? ⟨w.heap.size, 5, none⟩ = some (.slice A args.length c) := b5
  have HW0 : Hid (w.alloc (.cells #[.string op, .string name, .int .i64 v.type, .int .i64 v.n, .string v.s, .slice A args.length c, .int .i64 pos] 48) = w0) := Lib.hid hw0
  show Calls Tryd.prog 40 #[.agg #[.string op, .string name, .int .i64 v.type, .int .i64 v.n, .string v.s, .slice A args.length c, .int .i64 pos]] w _
  rw [hn] at b5 hcap h3 TC HW0 ⊢
  clear ih hm hg he hw0 hw1 hb hb1 ho hz hn n1 n2
  go_enter Tryd.func40, Tryd.ntmps40
  go_wp2_with (first | rw [HW0.out] | rw [HW1.out])
  refine (TC.out).mono ?_
  rintro e' w2 ⟨vv, rfl, hown, hb2⟩
  have HB2 := Lib.hid (HB1.out.trans (hb2.mono HB1.out.size))
  have HX2 := Lib.hid (HX1.out.keep hb2)
  have HZ2 := Lib.hid (HZ1.out.keep hb2)
  have HN1 := Lib.hid hb2.size
  have fb5 := HX2.out.free 5
  have hl2 := HX2.out.lt
  obtain ⟨-, -, -, -, -, b5, -⟩ := HX2.out.cells
  replace b5 : w2.cell? ⟨w.heap.size, 5, none⟩ = some (.slice A args.length c) := b5
  have HOW := Lib.hid hown
  clear hown hb2 TC
  by_cases h0 : n = 0
  · subst h0
    have HA0 := Lib.hid (List.eq_nil_of_length_eq_zero HLn.out)
    obtain ⟨A', c', hv, -⟩ := Sees.of_own HOW.out
    subst hv
    have hx3 := HX2.out.setArgs A' c' []
    obtain ⟨w3, hw3⟩ : ∃ w3, w2.setCell ⟨w.heap.size, 5, none⟩ (.slice A' 0 c') = w3 := ⟨_, rfl⟩
    replace hx3 : Own7 (w2.setCell ⟨w.heap.size, 5, none⟩ (.slice A' 0 c')) w.heap.size (.mk op name v A' c' [] pos) := hx3
    rw [hw3] at hx3
    have HX3 := Lib.hid hx3
    have HZ3 := Lib.hid (show Own7 w3 w0.heap.size (.mk ⟨#[]⟩ ⟨#[]⟩ noVal none 0 [] 0) by
      unfold Own7
      rw [← hw3, heap_setCell_other _ _ _ _ (show w0.heap.size ≠ w.heap.size by have := HSZ.out; omega)]
      exact HZ2.out)
    have HB3 := Lib.hid (show Below w.heap.size w w3 by rw [← hw3]; exact HB2.out.setCell (p := ⟨w.heap.size, 5, none⟩) (Nat.le_refl _) _)
    have hs3 := HX3.out.lt
    obtain ⟨d0, d1, d2, d3, d4, d5, d6⟩ := HX3.out.cells
    replace d0 : w3.cell? ⟨w.heap.size, 0, none⟩ = some (.string op) := d0
    replace d1 : w3.cell? ⟨w.heap.size, 1, none⟩ = some (.string name) := d1
    replace d2 : w3.cell? ⟨w.heap.size, 2, none⟩ = some (.int .i64 v.type) := d2
    replace d3 : w3.cell? ⟨w.heap.size, 3, none⟩ = some (.int .i64 v.n) := d3
    replace d4 : w3.cell? ⟨w.heap.size, 4, none⟩ = some (.string v.s) := d4
    replace d5 : w3.cell? ⟨w.heap.size, 5, none⟩ = some (.slice A' 0 c') := d5
    replace d6 : w3.cell? ⟨w.heap.size, 6, none⟩ = some (.int .i64 pos) := d6
    have HW3 := Lib.hid hw3
    have HSEE := Lib.hid (show ∀ w', SeesS (fun b => w.heap.size ≤ b) w' (.mk op name v A' c' [] pos) from fun w' => .mk ⟨rfl, Nat.zero_le _, by
        obtain ⟨A2, c2, e2, hse⟩ := Sees.of_own HOW.out
        injection e2 with e2 e3 e4
        rw [e4]; exact hse.2.2.1, (fun e => by
        obtain ⟨A2, c2, e2, hse⟩ := Sees.of_own HOW.out
        injection e2 with e2 e3 e4
        have := hse.2.2.2.1 (e2 ▸ e)
        exact ⟨rfl, by rw [e4]; exact this.2⟩), fun h => absurd (show 0 < 0 from h) (by omega)⟩ (fun g o _ h => absurd (show 0 < 0 from h) (by omega)) HE.out.parts.2.1 HE.out.parts.2.2.1 HE.out.parts.2.2.2.1 HE.out.parts.2.2.2.2.1 (fun a h => by cases h))
    clear hw3 hx3
    go_wp2_with (first | rw [HW3.out])
    go_loopw [12] (fun i wr => i = .int .i64 0 ∧ wr = w3) (fun _ _ => 0)
    case atStart => exact ⟨rfl, rfl⟩
    case round =>
      obtain ⟨rfl, rfl⟩ := hrel
      go_wp2_with (first
        | (refine wpList_store7 rfl (.tmp 2) (.tmp 24) rfl (X := .mk op name v A' c' [] pos) HZ3.out rfl (by rfl) ?_; intro w9 hz9 hb9 ha9 hs9))
      have HB9 := Lib.hid (hb9 w.heap.size w HB3.out HLE.out)
      clear hb9 ha9 hs9
      obtain ⟨o0, o1, o2, o3, o4, o5, o6⟩ := hz9.cells
      refine bodyPost_ret (v := exV (.mk op name v A' c' [] pos)) ?_ rfl ?_
      · simp [results, Tryd.results40, go_sem, o0, o1, o2, o3, o4, o5, o6, exV]
      · exact ⟨_, rfl, HSEE.out w9, by rw [HA0.out, strip_mk, strip_mk], HB9.out⟩
  · obtain ⟨g, cap, hv, hgB, hrow⟩ := RowE.of_own HOW.out HLn.out (by omega)
    subst hv
    have hx3 := HX2.out.setArgs (some ⟨g, 0, none⟩) cap args
    obtain ⟨w3, hw3⟩ : ∃ w3, w2.setCell ⟨w.heap.size, 5, none⟩ (.slice (some ⟨g, 0, none⟩) n cap) = w3 := ⟨_, rfl⟩
    rw [HLn.out, hw3] at hx3
    have hgw : w.heap.size < g := by have := HX1.out.lt; omega
    have HX3 := Lib.hid hx3
    have HZ3 := Lib.hid (show Own7 w3 w0.heap.size (.mk ⟨#[]⟩ ⟨#[]⟩ noVal none 0 [] 0) by
      unfold Own7
      rw [← hw3, heap_setCell_other _ _ _ _ (show w0.heap.size ≠ w.heap.size by have := HSZ.out; omega)]
      exact HZ2.out)
    have HB3 := Lib.hid (show Below w.heap.size w w3 by rw [← hw3]; exact HB2.out.setCell (p := ⟨w.heap.size, 5, none⟩) (Nat.le_refl _) _)
    have HR3 := Lib.hid (hrow.same (w' := w3) (by rw [← hw3]; exact heap_setCell_other _ _ _ _ (show g ≠ w.heap.size by omega)))
    have HL3 := Lib.hid (show w1.heap.size ≤ w3.heap.size by rw [← hw3]; have := HN1.out; simpa [World.setCell] using this)
    have HGB := Lib.hid hgB
    have HGZ := Lib.hid (show w0.heap.size < g by have := HZ1.out.lt; omega)
    have hcp : n ≤ cap ∧ cap ≤ 2 ^ 63 - 1 := by
      obtain ⟨cur, _, h4, h5, _⟩ := hrow
      unfold maxLen at h5
      exact ⟨by rw [← HLn.out]; exact h4, h5⟩
    obtain ⟨hcp1, hcp2⟩ := hcp
    have HC3 := Lib.hid (show w3.cell? ⟨w.heap.size, 0, none⟩ = some (.string op) ∧ w3.cell? ⟨w.heap.size, 1, none⟩ = some (.string name) ∧ w3.cell? ⟨w.heap.size, 2, none⟩ = some (.int .i64 v.type) ∧ w3.cell? ⟨w.heap.size, 3, none⟩ = some (.int .i64 v.n) ∧ w3.cell? ⟨w.heap.size, 4, none⟩ = some (.string v.s) ∧ w3.cell? ⟨w.heap.size, 5, none⟩ = some (.slice (some ⟨g, 0, none⟩) n cap) ∧ w3.cell? ⟨w.heap.size, 6, none⟩ = some (.int .i64 pos) from by
      have h := HX3.out.cells
      rw [← HLn.out]
      exact h)
    have HXL3 := Lib.hid HX3.out.lt
    obtain ⟨-, -, -, -, -, d5, -⟩ := HC3.out
    have HW3 := Lib.hid hw3
    clear hw3 hx3 hrow hgw hgB HOW h0
    go_wp2_with (first | rw [HW3.out])
    clear d5 b5 fb5 hl2
    go_loopw [12] (fun i wr => ∃ (k : Nat) (xs : List Ex), k ≤ n ∧ i = .int .i64 k ∧ xs.length = k ∧ RowE wr g cap (xs ++ args.drop k) ∧ (∀ x ∈ xs, SeesS (fun b => g < b) wr x) ∧ strips (args.take k) = strips xs ∧ Below w1.heap.size w3 wr) (fun i _ => n - (intOf i).toNat)
    case atStart => exact ⟨0, [], by omega, rfl, rfl, HR3.out, (fun x hx => by cases hx), by rw [List.take_zero], ⟨rfl, rfl, rfl, Nat.le_refl _, fun _ _ => rfl⟩⟩
    case round =>
      obtain ⟨k, xs, hk, rfl, hxl, hrow, hsee, hst, hb⟩ := hrel
      have HBR := Lib.hid hb
      have HRW := Lib.hid hrow
      have HSE := Lib.hid hsee
      have HST := Lib.hid hst
      have HXL := Lib.hid hxl
      have HBW := Lib.hid (show Below w.heap.size w wr from HB3.out.trans (hb.mono (Nat.le_trans HB1.out.size (Nat.le_refl _))))
      have HKC := Lib.hid (fun (w' : World) (h : Below w1.heap.size w3 w') => show w'.cell? ⟨w.heap.size, 0, none⟩ = some (.string op) ∧ w'.cell? ⟨w.heap.size, 1, none⟩ = some (.string name) ∧ w'.cell? ⟨w.heap.size, 2, none⟩ = some (.int .i64 v.type) ∧ w'.cell? ⟨w.heap.size, 3, none⟩ = some (.int .i64 v.n) ∧ w'.cell? ⟨w.heap.size, 4, none⟩ = some (.string v.s) ∧ w'.cell? ⟨w.heap.size, 5, none⟩ = some (.slice (some ⟨g, 0, none⟩) n cap) ∧ w'.cell? ⟨w.heap.size, 6, none⟩ = some (.int .i64 pos) from by
        have e : ∀ j, w'.cell? ⟨w.heap.size, j, none⟩ = w3.cell? ⟨w.heap.size, j, none⟩ := fun j => World.cell?_of_block (w := w3) (a := ⟨w.heap.size, j, none⟩) (h.block w.heap.size HX1.out.lt)
        simp only [e]
        exact HC3.out)
      clear hrow hsee hst hxl hb
      by_cases hlk : k < n
      · obtain ⟨x, hx⟩ : ∃ x, args[k]? = some x := ⟨_, List.getElem?_eq_getElem (by rw [HLn.out]; exact hlk)⟩
        have HX := Lib.hid hx
        obtain ⟨c0, c1, c2, c3, c4, c5, c6⟩ := HRW.out.at_ (get_next' HXL.out hx)
        have hgl := HRW.out.lt
        obtain ⟨w4, hw4, -, hb4, -⟩ := box_ex wr x
        have ho4 := own7_new wr x
        rw [hw4] at ho4
        have HO4 := Lib.hid ho4
        have hpk := Lib.hid (show wr.heap.size < w4.heap.size from ho4.lt)
        obtain ⟨x0, x1, x2, x3, x4, x5, x6⟩ := ho4.cells
        have HW4 := Lib.hid hw4
        have HB4 := Lib.hid (show Below w1.heap.size w3 w4 from HBR.out.trans (hb4.mono (Nat.le_trans HL3.out HBR.out.size)))
        have HBW4 := Lib.hid (HBW.out.trans (hb4.mono HBW.out.size))
        have HMX := Lib.hid (List.mem_of_getElem? hx)
        have T := Lib.hid (fun (w' : World) (h : Below w4.heap.size w4 w') => IH.out x (HM.out x HMX.out) (HGA.out x HMX.out) w' ((HE.out.parts.2.2.2.2.2 x HMX.out).keep (HBW4.out.trans (h.mono HBW4.out.size))))
        unfold OwnSays exV at T
        have HR4 := Lib.hid (HRW.out.keep hb4)
        have HG4 := Lib.hid (Nat.lt_of_lt_of_le hgl hb4.size)
        have HSE4 := Lib.hid (fun y hy => (HSE.out y hy).keep (w' := w4) (.of_below hb4))
        have HSNX := Lib.hid (show strips (args.take (k + 1)) = strips (args.take k) ++ [strip x] by rw [List.take_add_one, hx, strips_map, strips_map]; simp)
        obtain ⟨-, -, -, -, -, d5, -⟩ := HKC.out w4 HB4.out
        have dl := Nat.lt_of_lt_of_le HXL3.out (Nat.le_trans HBR.out.size hb4.size)
        have HNX := Lib.hid (show ∀ (w5 : World) (y : Ex), SeesS (fun b => w4.heap.size ≤ b) w5 y → strip y = strip x → Below w4.heap.size w4 w5 → RowE w5 g cap (xs ++ args.drop k) ∧ (w5.cell? ⟨w.heap.size, 5, none⟩ = some (.slice (some ⟨g, 0, none⟩) n cap)) ∧ w.heap.size < w5.heap.size ∧
            (∃ (xs' : List Ex), xs'.length = k + 1 ∧ RowE (putAll w5 g (k * 7) (exCells y)) g cap (xs' ++ args.drop (k + 1)) ∧ (∀ z ∈ xs', SeesS (fun b => g < b) (putAll w5 g (k * 7) (exCells y)) z) ∧ strips (args.take (k + 1)) = strips xs' ∧ Below w1.heap.size w3 (putAll w5 g (k * 7) (exCells y))) from fun w5 y hsy hstr hb5 => by
          have hR5 := HR4.out.keep hb5
          have hb35 : Below w1.heap.size w3 w5 := HB4.out.trans (hb5.mono (Nat.le_trans HL3.out HB4.out.size))
          have hns : ¬ (g < g) := by omega
          refine ⟨hR5, (HKC.out w5 hb35).2.2.2.2.2.1, Nat.lt_of_lt_of_le HXL3.out hb35.size, xs ++ [y], by rw [List.length_append, HXL.out]; rfl, ?_, ?_, ?_, putAll_below _ _ _ _ g (k * 7) hb35 HGB.out⟩
          · rw [← set_next' HXL.out (by rw [HLn.out]; exact hlk)]
            exact hR5.put (by rw [List.length_append, List.length_drop, HXL.out, HLn.out]; omega) y
          · intro z hz
            rcases List.mem_append.1 hz with hz | hz
            · exact ((HSE4.out z hz).keep (.of_below hb5)).keep (putAll_alike _ _ _ _ hns)
            · simp at hz
              rw [hz]
              exact (hsy.mono fun b h => Nat.lt_of_lt_of_le HG4.out h).keep (putAll_alike _ _ _ _ hns)
          · rw [HSNX.out, HST.out, strips_map, strips_map, List.map_append, ← hstr]; rfl)
        clear hx hb4 hw4 ho4
        go_wp2_with (first | rw [HW4.out])
        clear c0 c1 c2 c3 c4 c5 c6
        go_region_law (go_simp; go_at_call 40; refine (T.out _ ((Below.refl _ w4).drew)).mono ?_; rintro e' w5 ⟨y, rfl, hsy, hstr, hb5⟩; obtain ⟨hR5, d5', dl', xs', hxl', hR6, hS6, hst6, hB6⟩ := HNX.out w5 y hsy hstr (((Below.refl w4.heap.size w4).drew).trans hb5); obtain ⟨c0, c1, c2, c3, c4, c5, c6⟩ := hR5.at_ (get_next' HXL.out HX.out); have f0 := hR5.free (k * 7); have f1 := hR5.free (k * 7 + 1); have f2 := hR5.free (k * 7 + 2); have f3 := hR5.free (k * 7 + 3); have f4 := hR5.free (k * 7 + 4); have f5 := hR5.free (k * 7 + 5); have f6 := hR5.free (k * 7 + 6); have hl5 := hR5.lt; have HXL6 := Lib.hid hxl'; have HR6 := Lib.hid hR6; have HS6 := Lib.hid hS6; have HT6 := Lib.hid hst6; have HB6 := Lib.hid hB6; clear hsy hstr hb5 hxl' hR6 hS6 hst6 hB6)
        all_goals
          unfold exCells at HR6 HS6 HB6
          go_wp2_with fail
          go_roundw
          case rel => exact ⟨k + 1, xs', by omega, by go_num, HXL6.out, HR6.out, HS6.out, HT6.out, HB6.out⟩
          case measure => simp [intOf]; omega
      · obtain rfl : n = k := by omega
        have HTK := Lib.hid (show args.take n = args from List.take_of_length_le (by rw [HLn.out]; exact Nat.le_refl _))
        have HDR := Lib.hid (show args.drop n = [] from List.drop_of_length_le (by rw [HLn.out]; exact Nat.le_refl _))
        rw [HDR.out, List.append_nil] at HRW
        rw [HTK.out] at HST
        obtain ⟨d0, d1, d2, d3, d4, d5, d6⟩ := HKC.out wr HBR.out
        have HZr := Lib.hid (show Own7 wr w0.heap.size (.mk ⟨#[]⟩ ⟨#[]⟩ noVal none 0 [] 0) from (HBR.out.block w0.heap.size HZ1.out.lt).trans HZ3.out)
        have HSEE := Lib.hid (show SeesS (fun b => w0.heap.size < b) wr (.mk op name v (some ⟨g, 0, none⟩) cap xs pos) from by
          refine .mk HRW.out.sees (fun g' o' e1 _ => ?_) HE.out.parts.2.1 HE.out.parts.2.2.1 HE.out.parts.2.2.2.1 HE.out.parts.2.2.2.2.1 (fun a ha => (HSE.out a ha).mono (fun b h => Nat.lt_trans HGZ.out h))
          injection e1 with e1
          injection e1 with e1 _
          rw [← e1]; exact HGZ.out)
        go_wp2_with (first
          | (refine wpList_store7 rfl (.tmp 2) (.tmp 24) rfl (X := .mk op name v (some ⟨g, 0, none⟩) cap xs pos) HZr.out rfl (by show _ = Value.agg #[.string op, .string name, .int .i64 v.type, .int .i64 v.n, .string v.s, .slice (some ⟨g, 0, none⟩) xs.length cap, .int .i64 pos]; rw [HXL.out]; rfl) ?_; intro w9 hz9 hb9 ha9 hs9))
        have HB9 := Lib.hid (hb9 w.heap.size w HBW.out HLE.out)
        have HS9 := Lib.hid (HSEE.out.keep (w' := w9) ⟨by rw [hs9]; exact Nat.le_refl _, fun b hb _ => ha9 b (by omega)⟩)
        clear hb9 ha9 hs9
        obtain ⟨o0, o1, o2, o3, o4, o5, o6⟩ := hz9.cells
        refine bodyPost_ret (v := exV (.mk op name v (some ⟨g, 0, none⟩) cap xs pos)) ?_ rfl ?_
        · simp [results, Tryd.results40, go_sem, o0, o1, o2, o3, o4, o5, o6, exV]
        · exact ⟨_, rfl, HS9.out.mono (fun b h => Nat.le_of_lt (Nat.lt_trans HSZ.out h)), by rw [strip_mk, strip_mk, HST.out], HB9.out⟩
theorem own_any : ∀ m : Nat, OwnAt m
  | 0 => fun e hm _ _ _ => by cases e; simp at hm
  | m + 1 => fun e hm hg w he => by
    obtain ⟨op, name, v, A, c, args, pos⟩ := e
    exact own_step m (own_any m) op name v A c args pos hm hg w he
end Go.Proofs.YtidamhejeaadpaaDoor
