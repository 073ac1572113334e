/- fold.own, walked: an expression laid anew. fold.Fold, walked: any expression over any columns made short. -/
import Derived.Test.YtpbbkpfaphjdoaaGreatDoorFFoldValue
import Derived.Deep.RegionLaw
import Derived.Test.YtpbbkpfaphjdoaaGreatDoorFFoldOf
import Derived.BigRegion
namespace Go.Proofs.YtpbbkpfaphjdoaaGreatDoor
open Go.ChangeShapes Go.WideShapes Go.ChangeAt Go.RowKit
def OwnSays (e : Ex) (w : World) (r : Ending) (w' : World) : Prop := ∃ x, r = .returned (exV x) ∧ SeesS (fun b => w.heap.size ≤ b) w' x ∧ strip x = strip e ∧ Below w.heap.size w w'
def OwnAt (m : Nat) : Prop := ∀ e : Ex, SizeOf.sizeOf e ≤ m → nodesErr e = 0 → ∀ w : World, SeesEx w e → Calls Tryz.prog 74 #[exV e] w (OwnSays e w)
theorem set_next' {l xs : List Ex} {k : Nat} {y : Ex} (hk : xs.length = k) (hlt : k < l.length) : (xs ++ l.drop k).set k y = (xs ++ [y]) ++ l.drop (k + 1) := by
 rw [List.set_append_right _ _ (by omega), hk, Nat.sub_self, List.drop_eq_getElem_cons hlt, List.set_cons_zero]; simp
theorem get_next' {l xs : List Ex} {k : Nat} {x : Ex} (hk : xs.length = k) (hx : l[k]? = some x) : (xs ++ l.drop k)[k]? = some x := by
 rw [List.getElem?_append_right (by omega), hk, Nat.sub_self, List.getElem?_drop, Nat.add_zero, hx]
set_option maxHeartbeats 16000000 in
set_option maxRecDepth 100000 in
theorem own_step (m : Nat) (ih : OwnAt m) (op name : ByteArray) (v : Val) (A : Option Addr) (c : Nat) (args : List Ex) (pos : Int) (hm : SizeOf.sizeOf (Ex.mk op name v A c args pos) ≤ m + 1)
  (hg : nodesErr (.mk op name v A c args pos) = 0) (w : World) (he : SeesEx w (.mk op name v A c args pos)) :
  Calls Tryz.prog 74 #[exV (.mk op name v A c args pos)] w (OwnSays (.mk op name v A c args pos) w) := by
 have IH := Lib.hid ih
 obtain ⟨n1, n2⟩ := nodesErr_parts hg
 have HGA := Lib.hid (fun a (ha : a ∈ args) => nodesErrs_all n2 a ha)
 have HM := Lib.hid (fun a (ha : a ∈ args) => show SizeOf.sizeOf a ≤ m by have := ex_lt (e := .mk op name v A c args pos) ha; omega)
 have HE := Lib.hid he
 obtain ⟨w0, hw0, ho, hb, -⟩ := box_ex w (.mk op name v A c args pos)
 obtain ⟨w1, hw1⟩ : ∃ w1, w0.alloc (.cells #[.string ⟨#[]⟩, .string ⟨#[]⟩, .int .i64 0, .int .i64 0, .string ⟨#[]⟩, .slice none 0 0, .int .i64 0] 26) = w1 := ⟨_, rfl⟩
 have hb1 := belowNew' w0 (.cells #[.string ⟨#[]⟩, .string ⟨#[]⟩, .int .i64 0, .int .i64 0, .string ⟨#[]⟩, .slice none 0 0, .int .i64 0] 26)
 have hz : Own7 (w0.alloc (.cells #[.string ⟨#[]⟩, .string ⟨#[]⟩, .int .i64 0, .int .i64 0, .string ⟨#[]⟩, .slice none 0 0, .int .i64 0] 26)) w0.heap.size (.mk ⟨#[]⟩ ⟨#[]⟩ noVal none 0 [] 0) := own7_new w0 (.mk ⟨#[]⟩ ⟨#[]⟩ noVal none 0 [] 0)
 rw [hw1] at hb1 hz
 have HX1 := Lib.hid (ho.keep hb1)
 have HZ1 := Lib.hid hz
 have HB1 := Lib.hid (below_step hb hb1)
 have HLE := Lib.hid hb.size
 have HSZ := Lib.hid (show w.heap.size < w0.heap.size from ho.lt)
 have HW1 := Lib.hid hw1
 have hcap : args.length ≤ c := he.parts.1.2.1
 have hmax : c ≤ maxLen := he.parts.1.2.2.1
 unfold maxLen at hmax
 have h3 : args.length ≤ 3 := (nodeErr_len n1).2.2
 have TC := Lib.hid (cloneEx_any A args.length c args w1 ((he.keep HB1.out).parts.1) (by omega))
 unfold CloneExSays at TC
 obtain ⟨n, hn⟩ : ∃ n, args.length = n := ⟨_, rfl⟩
 have HLn := Lib.hid hn
 obtain ⟨-, -, -, -, -, b5, -⟩ := HX1.out.cells
 replace b5 : w1.cell? ⟨w.heap.size, 5, none⟩ = some (.slice A args.length c) := b5
 have HW0 : Hid (w.alloc (.cells #[.string op, .string name, .int .i64 v.type, .int .i64 v.n, .string v.s, .slice A args.length c, .int .i64 pos] 26) = w0) := Lib.hid hw0
 show Calls Tryz.prog 74 #[.agg #[.string op, .string name, .int .i64 v.type, .int .i64 v.n, .string v.s, .slice A args.length c, .int .i64 pos]] w _
 rw [hn] at b5 hcap h3 TC HW0 ⊢
 clear ih hm hg he hw0 hw1 hb hb1 ho hz hn n1 n2
 go_enter Tryz.func74, Tryz.ntmps74
 go_wp2_with (first | rw [HW0.out] | rw [HW1.out])
 refine (TC.out).mono ?_
 rintro e' w2 ⟨vv, rfl, hown, hb2⟩
 have HB2 := Lib.hid (HB1.out.trans (hb2.mono HB1.out.size))
 have HX2 := Lib.hid (HX1.out.keep hb2)
 have HZ2 := Lib.hid (HZ1.out.keep hb2)
 have HN1 := Lib.hid hb2.size
 have fb5 := HX2.out.free 5
 have hl2 := HX2.out.lt
 obtain ⟨-, -, -, -, -, b5, -⟩ := HX2.out.cells
 replace b5 : w2.cell? ⟨w.heap.size, 5, none⟩ = some (.slice A args.length c) := b5
 have HOW := Lib.hid hown
 clear hown hb2 TC
 by_cases h0 : n = 0
 ·subst h0
  have HA0 := Lib.hid (List.eq_nil_of_length_eq_zero HLn.out)
  obtain ⟨A', c', hv, -⟩ := Sees.of_own HOW.out
  subst hv
  have hx3 := HX2.out.setArgs A' c' []
  obtain ⟨w3, hw3⟩ : ∃ w3, w2.setCell ⟨w.heap.size, 5, none⟩ (.slice A' 0 c') = w3 := ⟨_, rfl⟩
  replace hx3 : Own7 (w2.setCell ⟨w.heap.size, 5, none⟩ (.slice A' 0 c')) w.heap.size (.mk op name v A' c' [] pos) := hx3
  rw [hw3] at hx3
  have HX3 := Lib.hid hx3
  have HZ3 := Lib.hid (show Own7 w3 w0.heap.size (.mk ⟨#[]⟩ ⟨#[]⟩ noVal none 0 [] 0) by
   unfold Own7
   rw [← hw3, heap_setCell_other _ _ _ _ (show w0.heap.size ≠ w.heap.size by have := HSZ.out; omega)]
   exact HZ2.out)
  have HB3 := Lib.hid (show Below w.heap.size w w3 by rw [← hw3]; exact HB2.out.setCell (p := ⟨w.heap.size, 5, none⟩) (Nat.le_refl _) _)
  have hs3 := HX3.out.lt
  obtain ⟨d0, d1, d2, d3, d4, d5, d6⟩ := HX3.out.cells
  replace d0 : w3.cell? ⟨w.heap.size, 0, none⟩ = some (.string op) := d0
  replace d1 : w3.cell? ⟨w.heap.size, 1, none⟩ = some (.string name) := d1
  replace d2 : w3.cell? ⟨w.heap.size, 2, none⟩ = some (.int .i64 v.type) := d2
  replace d3 : w3.cell? ⟨w.heap.size, 3, none⟩ = some (.int .i64 v.n) := d3
  replace d4 : w3.cell? ⟨w.heap.size, 4, none⟩ = some (.string v.s) := d4
  replace d5 : w3.cell? ⟨w.heap.size, 5, none⟩ = some (.slice A' 0 c') := d5
  replace d6 : w3.cell? ⟨w.heap.size, 6, none⟩ = some (.int .i64 pos) := d6
  have HW3 := Lib.hid hw3
  have HSEE := Lib.hid (show ∀ w', SeesS (fun b => w.heap.size ≤ b) w' (.mk op name v A' c' [] pos) from fun w' => .mk ⟨rfl, Nat.zero_le _, by
    obtain ⟨A2, c2, e2, hse⟩ := Sees.of_own HOW.out
    injection e2 with e2 e3 e4
    rw [e4]; exact hse.2.2.1, (fun e => by
    obtain ⟨A2, c2, e2, hse⟩ := Sees.of_own HOW.out
    injection e2 with e2 e3 e4
    have := hse.2.2.2.1 (e2 ▸ e)
    exact ⟨rfl, by rw [e4]; exact this.2⟩), fun h => absurd (show 0 < 0 from h) (by omega)⟩ (fun g o _ h => absurd (show 0 < 0 from h) (by omega)) HE.out.parts.2.1 HE.out.parts.2.2.1 HE.out.parts.2.2.2.1 HE.out.parts.2.2.2.2.1 (fun a h => by cases h))
  clear hw3 hx3
  go_wp2_with (first | rw [HW3.out])
  go_loopw [12] (fun i wr => i = .int .i64 0 ∧ wr = w3) (fun _ _ => 0)
  case atStart => exact ⟨rfl, rfl⟩
  case round =>
   obtain ⟨rfl, rfl⟩ := hrel
   go_wp2_with (first
    | (refine wpList_store7 rfl (.tmp 2) (.tmp 24) rfl (X := .mk op name v A' c' [] pos) HZ3.out rfl (by rfl) ?_; intro w9 hz9 hb9 ha9 hs9))
   have HB9 := Lib.hid (hb9 w.heap.size w HB3.out HLE.out)
   clear hb9 ha9 hs9
   obtain ⟨o0, o1, o2, o3, o4, o5, o6⟩ := hz9.cells
   refine bodyPost_ret (v := exV (.mk op name v A' c' [] pos)) ?_ rfl ?_
   ·simp [results, Tryz.results74, go_sem, o0, o1, o2, o3, o4, o5, o6, exV]
   ·exact ⟨_, rfl, HSEE.out w9, by rw [HA0.out, strip_mk, strip_mk], HB9.out⟩
 ·obtain ⟨g, cap, hv, hgB, hrow⟩ := RowE.of_own HOW.out HLn.out (by omega)
  subst hv
  have hx3 := HX2.out.setArgs (some ⟨g, 0, none⟩) cap args
  obtain ⟨w3, hw3⟩ : ∃ w3, w2.setCell ⟨w.heap.size, 5, none⟩ (.slice (some ⟨g, 0, none⟩) n cap) = w3 := ⟨_, rfl⟩
  rw [HLn.out, hw3] at hx3
  have hgw : w.heap.size < g := by have := HX1.out.lt; omega
  have HX3 := Lib.hid hx3
  have HZ3 := Lib.hid (show Own7 w3 w0.heap.size (.mk ⟨#[]⟩ ⟨#[]⟩ noVal none 0 [] 0) by
   unfold Own7
   rw [← hw3, heap_setCell_other _ _ _ _ (show w0.heap.size ≠ w.heap.size by have := HSZ.out; omega)]
   exact HZ2.out)
  have HB3 := Lib.hid (show Below w.heap.size w w3 by rw [← hw3]; exact HB2.out.setCell (p := ⟨w.heap.size, 5, none⟩) (Nat.le_refl _) _)
  have HR3 := Lib.hid (hrow.same (w' := w3) (by rw [← hw3]; exact heap_setCell_other _ _ _ _ (show g ≠ w.heap.size by omega)))
  have HL3 := Lib.hid (show w1.heap.size ≤ w3.heap.size by rw [← hw3]; have := HN1.out; simpa [World.setCell] using this)
  have HGB := Lib.hid hgB
  have HGZ := Lib.hid (show w0.heap.size < g by have := HZ1.out.lt; omega)
  have hcp : n ≤ cap ∧ cap ≤ 2 ^ 63 - 1 := by
   obtain ⟨cur, _, h4, h5, _⟩ := hrow
   unfold maxLen at h5
   exact ⟨by rw [← HLn.out]; exact h4, h5⟩
  obtain ⟨hcp1, hcp2⟩ := hcp
  have HC3 := Lib.hid (show w3.cell? ⟨w.heap.size, 0, none⟩ = some (.string op) ∧ w3.cell? ⟨w.heap.size, 1, none⟩ = some (.string name) ∧ w3.cell? ⟨w.heap.size, 2, none⟩ = some (.int .i64 v.type) ∧ w3.cell? ⟨w.heap.size, 3, none⟩ = some (.int .i64 v.n) ∧ w3.cell? ⟨w.heap.size, 4, none⟩ = some (.string v.s) ∧ w3.cell? ⟨w.heap.size, 5, none⟩ = some (.slice (some ⟨g, 0, none⟩) n cap) ∧ w3.cell? ⟨w.heap.size, 6, none⟩ = some (.int .i64 pos) from by
   have h := HX3.out.cells
   rw [← HLn.out]
   exact h)
  have HXL3 := Lib.hid HX3.out.lt
  obtain ⟨-, -, -, -, -, d5, -⟩ := HC3.out
  have HW3 := Lib.hid hw3
  clear hw3 hx3 hrow hgw hgB HOW h0
  go_wp2_with (first | rw [HW3.out])
  clear d5 b5 fb5 hl2
  go_loopw [12] (fun i wr => ∃ (k : Nat) (xs : List Ex), k ≤ n ∧ i = .int .i64 k ∧ xs.length = k ∧ RowE wr g cap (xs ++ args.drop k) ∧ (∀ x ∈ xs, SeesS (fun b => g < b) wr x) ∧ strips (args.take k) = strips xs ∧ Below w1.heap.size w3 wr) (fun i _ => n - (intOf i).toNat)
  case atStart => exact ⟨0, [], by omega, rfl, rfl, HR3.out, (fun x hx => by cases hx), by rw [List.take_zero], ⟨rfl, rfl, rfl, Nat.le_refl _, fun _ _ => rfl⟩⟩
  case round =>
   obtain ⟨k, xs, hk, rfl, hxl, hrow, hsee, hst, hb⟩ := hrel
   have HBR := Lib.hid hb
   have HRW := Lib.hid hrow
   have HSE := Lib.hid hsee
   have HST := Lib.hid hst
   have HXL := Lib.hid hxl
   have HBW := Lib.hid (show Below w.heap.size w wr from HB3.out.trans (hb.mono (Nat.le_trans HB1.out.size (Nat.le_refl _))))
   have HKC := Lib.hid (fun (w' : World) (h : Below w1.heap.size w3 w') => show w'.cell? ⟨w.heap.size, 0, none⟩ = some (.string op) ∧ w'.cell? ⟨w.heap.size, 1, none⟩ = some (.string name) ∧ w'.cell? ⟨w.heap.size, 2, none⟩ = some (.int .i64 v.type) ∧ w'.cell? ⟨w.heap.size, 3, none⟩ = some (.int .i64 v.n) ∧ w'.cell? ⟨w.heap.size, 4, none⟩ = some (.string v.s) ∧ w'.cell? ⟨w.heap.size, 5, none⟩ = some (.slice (some ⟨g, 0, none⟩) n cap) ∧ w'.cell? ⟨w.heap.size, 6, none⟩ = some (.int .i64 pos) from by
    have e : ∀ j, w'.cell? ⟨w.heap.size, j, none⟩ = w3.cell? ⟨w.heap.size, j, none⟩ := fun j => World.cell?_of_block (w := w3) (a := ⟨w.heap.size, j, none⟩) (h.block w.heap.size HX1.out.lt)
    simp only [e]
    exact HC3.out)
   clear hrow hsee hst hxl hb
   by_cases hlk : k < n
   ·obtain ⟨x, hx⟩ : ∃ x, args[k]? = some x := ⟨_, List.getElem?_eq_getElem (by rw [HLn.out]; exact hlk)⟩
    have HX := Lib.hid hx
    obtain ⟨c0, c1, c2, c3, c4, c5, c6⟩ := HRW.out.at_ (get_next' HXL.out hx)
    have hgl := HRW.out.lt
    obtain ⟨w4, hw4, -, hb4, -⟩ := box_ex wr x
    have ho4 := own7_new wr x
    rw [hw4] at ho4
    have HO4 := Lib.hid ho4
    have hpk := Lib.hid (show wr.heap.size < w4.heap.size from ho4.lt)
    obtain ⟨x0, x1, x2, x3, x4, x5, x6⟩ := ho4.cells
    have HW4 := Lib.hid hw4
    have HB4 := Lib.hid (show Below w1.heap.size w3 w4 from HBR.out.trans (hb4.mono (Nat.le_trans HL3.out HBR.out.size)))
    have HBW4 := Lib.hid (HBW.out.trans (hb4.mono HBW.out.size))
    have HMX := Lib.hid (List.mem_of_getElem? hx)
    have T := Lib.hid (fun (w' : World) (h : Below w4.heap.size w4 w') => IH.out x (HM.out x HMX.out) (HGA.out x HMX.out) w' ((HE.out.parts.2.2.2.2.2 x HMX.out).keep (HBW4.out.trans (h.mono HBW4.out.size))))
    unfold OwnSays exV at T
    have HR4 := Lib.hid (HRW.out.keep hb4)
    have HG4 := Lib.hid (Nat.lt_of_lt_of_le hgl hb4.size)
    have HSE4 := Lib.hid (fun y hy => (HSE.out y hy).keep (w' := w4) (.of_below hb4))
    have HSNX := Lib.hid (show strips (args.take (k + 1)) = strips (args.take k) ++ [strip x] by rw [List.take_add_one, hx, strips_map, strips_map]; simp)
    obtain ⟨-, -, -, -, -, d5, -⟩ := HKC.out w4 HB4.out
    have dl := Nat.lt_of_lt_of_le HXL3.out (Nat.le_trans HBR.out.size hb4.size)
    have HNX := Lib.hid (show ∀ (w5 : World) (y : Ex), SeesS (fun b => w4.heap.size ≤ b) w5 y → strip y = strip x → Below w4.heap.size w4 w5 → RowE w5 g cap (xs ++ args.drop k) ∧ (w5.cell? ⟨w.heap.size, 5, none⟩ = some (.slice (some ⟨g, 0, none⟩) n cap)) ∧ w.heap.size < w5.heap.size ∧
      (∃ (xs' : List Ex), xs'.length = k + 1 ∧ RowE (putAll w5 g (k * 7) (exCells y)) g cap (xs' ++ args.drop (k + 1)) ∧ (∀ z ∈ xs', SeesS (fun b => g < b) (putAll w5 g (k * 7) (exCells y)) z) ∧ strips (args.take (k + 1)) = strips xs' ∧ Below w1.heap.size w3 (putAll w5 g (k * 7) (exCells y))) from fun w5 y hsy hstr hb5 => by
     have hR5 := HR4.out.keep hb5
     have hb35 : Below w1.heap.size w3 w5 := HB4.out.trans (hb5.mono (Nat.le_trans HL3.out HB4.out.size))
     have hns : ¬ (g < g) := by omega
     refine ⟨hR5, (HKC.out w5 hb35).2.2.2.2.2.1, Nat.lt_of_lt_of_le HXL3.out hb35.size, xs ++ [y], by rw [List.length_append, HXL.out]; rfl, ?_, ?_, ?_, putAll_below _ _ _ _ g (k * 7) hb35 HGB.out⟩
     ·rw [← set_next' HXL.out (by rw [HLn.out]; exact hlk)]
      exact hR5.put (by rw [List.length_append, List.length_drop, HXL.out, HLn.out]; omega) y
     ·intro z hz
      rcases List.mem_append.1 hz with hz | hz
      ·exact ((HSE4.out z hz).keep (.of_below hb5)).keep (putAll_alike _ _ _ _ hns)
      ·simp at hz
       rw [hz]
       exact (hsy.mono fun b h => Nat.lt_of_lt_of_le HG4.out h).keep (putAll_alike _ _ _ _ hns)
     ·rw [HSNX.out, HST.out, strips_map, strips_map, List.map_append, ← hstr]; rfl)
    clear hx hb4 hw4 ho4
    go_wp2_with (first | rw [HW4.out])
    clear c0 c1 c2 c3 c4 c5 c6
    go_region_law (go_simp; go_at_call 74; refine (T.out _ ((Below.refl _ w4).drew)).mono ?_; rintro e' w5 ⟨y, rfl, hsy, hstr, hb5⟩; obtain ⟨hR5, d5', dl', xs', hxl', hR6, hS6, hst6, hB6⟩ := HNX.out w5 y hsy hstr (((Below.refl w4.heap.size w4).drew).trans hb5); obtain ⟨c0, c1, c2, c3, c4, c5, c6⟩ := hR5.at_ (get_next' HXL.out HX.out); have f0 := hR5.free (k * 7); have f1 := hR5.free (k * 7 + 1); have f2 := hR5.free (k * 7 + 2); have f3 := hR5.free (k * 7 + 3); have f4 := hR5.free (k * 7 + 4); have f5 := hR5.free (k * 7 + 5); have f6 := hR5.free (k * 7 + 6); have hl5 := hR5.lt; have HXL6 := Lib.hid hxl'; have HR6 := Lib.hid hR6; have HS6 := Lib.hid hS6; have HT6 := Lib.hid hst6; have HB6 := Lib.hid hB6; clear hsy hstr hb5 hxl' hR6 hS6 hst6 hB6)
    all_goals
     unfold exCells at HR6 HS6 HB6
     go_wp2_with fail
     go_roundw
     case rel => exact ⟨k + 1, xs', by omega, by go_num, HXL6.out, HR6.out, HS6.out, HT6.out, HB6.out⟩
     case measure => simp [intOf]; omega
   ·obtain rfl : n = k := by omega
    have HTK := Lib.hid (show args.take n = args from List.take_of_length_le (by rw [HLn.out]; exact Nat.le_refl _))
    have HDR := Lib.hid (show args.drop n = [] from List.drop_of_length_le (by rw [HLn.out]; exact Nat.le_refl _))
    rw [HDR.out, List.append_nil] at HRW
    rw [HTK.out] at HST
    obtain ⟨d0, d1, d2, d3, d4, d5, d6⟩ := HKC.out wr HBR.out
    have HZr := Lib.hid (show Own7 wr w0.heap.size (.mk ⟨#[]⟩ ⟨#[]⟩ noVal none 0 [] 0) from (HBR.out.block w0.heap.size HZ1.out.lt).trans HZ3.out)
    have HSEE := Lib.hid (show SeesS (fun b => w0.heap.size < b) wr (.mk op name v (some ⟨g, 0, none⟩) cap xs pos) from by
     refine .mk HRW.out.sees (fun g' o' e1 _ => ?_) HE.out.parts.2.1 HE.out.parts.2.2.1 HE.out.parts.2.2.2.1 HE.out.parts.2.2.2.2.1 (fun a ha => (HSE.out a ha).mono (fun b h => Nat.lt_trans HGZ.out h))
     injection e1 with e1
     injection e1 with e1 _
     rw [← e1]; exact HGZ.out)
    go_wp2_with (first
     | (refine wpList_store7 rfl (.tmp 2) (.tmp 24) rfl (X := .mk op name v (some ⟨g, 0, none⟩) cap xs pos) HZr.out rfl (by show _ = Value.agg #[.string op, .string name, .int .i64 v.type, .int .i64 v.n, .string v.s, .slice (some ⟨g, 0, none⟩) xs.length cap, .int .i64 pos]; rw [HXL.out]; rfl) ?_; intro w9 hz9 hb9 ha9 hs9))
    have HB9 := Lib.hid (hb9 w.heap.size w HBW.out HLE.out)
    have HS9 := Lib.hid (HSEE.out.keep (w' := w9) ⟨by rw [hs9]; exact Nat.le_refl _, fun b hb _ => ha9 b (by omega)⟩)
    clear hb9 ha9 hs9
    obtain ⟨o0, o1, o2, o3, o4, o5, o6⟩ := hz9.cells
    refine bodyPost_ret (v := exV (.mk op name v (some ⟨g, 0, none⟩) cap xs pos)) ?_ rfl ?_
    ·simp [results, Tryz.results74, go_sem, o0, o1, o2, o3, o4, o5, o6, exV]
    ·exact ⟨_, rfl, HS9.out.mono (fun b h => Nat.le_of_lt (Nat.lt_trans HSZ.out h)), by rw [strip_mk, strip_mk, HST.out], HB9.out⟩
theorem own_any : ∀ m : Nat, OwnAt m
 | 0 => fun e hm _ _ _ => by cases e; simp at hm
 | m + 1 => fun e hm hg w he => by
  obtain ⟨op, name, v, A, c, args, pos⟩ := e
  exact own_step m (own_any m) op name v A c args pos hm hg w he
end Go.Proofs.YtpbbkpfaphjdoaaGreatDoor
namespace Go.Proofs.YtpbbkpfaphjdoaaGreatDoor
open Go.ChangeShapes Go.WideShapes Go.ChangeAt Go.RowKit
def FoldFnSays (cols : List Col) (e : Ex) (w : World) (r : Ending) (w' : World) : Prop :=
 ((typeOf cols e).h ≠ 0 ∧ r = .returned (.tuple #[exV zeroEx, errV (typeOf cols e).h]) ∧ Below w.heap.size w w') ∨
 ((typeOf cols e).h = 0 ∧ ∃ x, r = .returned (.tuple #[exV x, errV 0]) ∧ SeesS (fun b => w.heap.size ≤ b) w' x ∧ strip x = strip (foldE e) ∧ Below w.heap.size w w')
theorem good_of {w : World} {cols : List Col} {e : Ex} (he : SeesEx w e) (h : (typeOf cols e).h = 0) : Good cols e := ⟨(typeOf_ok h).1, (typeOf_ok h).2.1, wf_of_sees he⟩
set_option maxHeartbeats 4000000 in
set_option maxRecDepth 100000 in
theorem foldFn_any (e : Ex) (C : Option Addr) (p q : Nat) (cols : List Col) (w : World) (hT : Tables w) (hC : SeesCols w C p q cols) (hs : ∀ x ∈ cols, x.name.size ≤ maxLen) (he : SeesEx w e) :
  Calls Tryz.prog 20 #[exV e, .slice C p q] w (FoldFnSays cols e w) := by
 obtain ⟨w0, hw0, ho, hb, -⟩ := box_ex w e
 obtain ⟨w1, hw1⟩ : ∃ w1, w0.alloc (.cells #[.string ⟨#[]⟩, .string ⟨#[]⟩, .int .i64 0, .int .i64 0, .string ⟨#[]⟩, .slice none 0 0, .int .i64 0] 26) = w1 := ⟨_, rfl⟩
 have hb1 := belowNew' w0 (.cells #[.string ⟨#[]⟩, .string ⟨#[]⟩, .int .i64 0, .int .i64 0, .string ⟨#[]⟩, .slice none 0 0, .int .i64 0] 26)
 have hz : Own7 (w0.alloc (.cells #[.string ⟨#[]⟩, .string ⟨#[]⟩, .int .i64 0, .int .i64 0, .string ⟨#[]⟩, .slice none 0 0, .int .i64 0] 26)) w0.heap.size zeroEx := own7_new w0 zeroEx
 rw [hw1] at hb1 hz
 have HX1 := Lib.hid (ho.keep hb1)
 have HZ1 := Lib.hid hz
 have HB1 := Lib.hid (below_step hb hb1)
 have HLE := Lib.hid hb.size
 have HW0 := Lib.hid hw0
 have HW1 := Lib.hid hw1
 have HE := Lib.hid he
 have TK := Lib.hid (typeOf_any e C p q cols w1 (hT.keep HB1.out) (hC.keep HB1.out) hs (he.keep HB1.out))
 unfold ResSays resV exV at TK
 have HG := Lib.hid (fun h : (typeOf cols e).h = 0 => good_of he h)
 have HR1 := Lib.hid (fun (w' : World) (h : Below w.heap.size w w') (hh : (typeOf cols e).h ≠ 0) => show FoldFnSays cols e w (.returned (.tuple #[exV zeroEx, errV (typeOf cols e).h])) w' from Or.inl ⟨hh, rfl, h⟩)
 have HR2 := Lib.hid (fun (x : Ex) (w' : World) (hh : (typeOf cols e).h = 0) (h1 : SeesS (fun b => w.heap.size ≤ b) w' x) (h2 : strip x = strip (foldE e)) (h : Below w.heap.size w w') => show FoldFnSays cols e w (.returned (.tuple #[exV x, errV 0])) w' from Or.inr ⟨hh, x, rfl, h1, h2, h⟩)
 generalize (typeOf cols e).h = k at TK HG HR1 HR2
 generalize (typeOf cols e).t = tt at TK
 generalize (typeOf cols e).p = tp at TK
 obtain ⟨d0, d1, d2, d3, d4, d5, d6⟩ := HX1.out.cells
 have hl1 := HX1.out.lt
 unfold exV
 clear hT hC hs he hw0 hw1 hb hb1 ho hz
 by_cases hk : k = 0
 ·have qk : (k != 0) = false := by simp [hk]
  go_enter Tryz.func20, Tryz.ntmps20
  go_wp2_with (first | rw [HW0.out] | rw [HW1.out])
  refine (TK.out).mono ?_
  rintro e' w2 ⟨rfl, hb2⟩
  obtain ⟨w3, hw3⟩ : ∃ w3, w2.alloc (.cells #[.int .i64 k, .int .i64 tp] 34) = w3 := ⟨_, rfl⟩
  have hb3 := belowNew' w2 (.cells #[.int .i64 k, .int .i64 tp] 34)
  have ho3 := heap_alloc_new w2 (.cells #[.int .i64 k, .int .i64 tp] 34)
  rw [hw3] at hb3 ho3
  obtain ⟨q0, q1⟩ : w3.cell? ⟨w2.heap.size, 0, none⟩ = some (.int .i64 k) ∧ w3.cell? ⟨w2.heap.size, 1, none⟩ = some (.int .i64 tp) := ⟨by rw [cell_of_row _ _ _ _ _ _ ho3]; rfl, by rw [cell_of_row _ _ _ _ _ _ ho3]; rfl⟩
  have HB23 := Lib.hid (below_step hb2 hb3)
  have HB3 := Lib.hid (HB1.out.trans (HB23.out.mono HB1.out.size))
  obtain ⟨d0, d1, d2, d3, d4, d5, d6⟩ := (HX1.out.keep HB23.out).cells
  have HZ3 := Lib.hid (HZ1.out.keep HB23.out)
  have T := Lib.hid (foldOf_any (cols := cols) _ e (Nat.le_refl _) (HG.out hk) (fun b => b < w3.heap.size) w3 (fun b h => h) (seesS_of (HE.out.keep HB3.out)))
  unfold FoldSays exV at T
  have HW3 := Lib.hid hw3
  have HK := Lib.hid hk
  clear hw3 hb2 hb3 ho3 hk TK
  go_wp2_with (first | rw [HW3.out])
  refine (T.out).mono ?_
  rintro e' w4 ⟨x, rfl, hsx, hstr, hb4⟩
  have hnx : nodesErr x = 0 := by
   rw [← strip_nodes, hstr, strip_nodes]
   exact (fold_good _ e (Nat.le_refl _) (HG.out HK.out)).1.nodes
  have T2 := Lib.hid (own_any _ x (Nat.le_refl _) hnx w4 hsx.see)
  unfold OwnSays exV at T2
  have HB4 := Lib.hid (HB3.out.trans (hb4.mono HB3.out.size))
  have HZ4 := Lib.hid (HZ3.out.keep hb4)
  have HSTR := Lib.hid hstr
  clear hsx hstr hb4 hnx T d0 d1 d2 d3 d4 d5 d6 q0 q1
  go_wp2_with fail
  refine (T2.out).mono ?_
  rintro e' w5 ⟨y, rfl, hsy, hstr2, hb5⟩
  have HB5 := Lib.hid (HB4.out.trans (hb5.mono HB4.out.size))
  have HZ5 := Lib.hid (HZ4.out.keep hb5)
  have HSY := Lib.hid (show SeesS (fun b => w.heap.size ≤ b ∧ b ≠ w0.heap.size) w5 y from hsy.mono fun b h => ⟨Nat.le_trans HB4.out.size h, by have := HZ4.out.lt; omega⟩)
  have HST2 := Lib.hid (hstr2.trans HSTR.out)
  clear hsy hstr2 hb5 T2
  go_wp2_with (first
   | (refine wpList_store7 rfl (.tmp 4) (.tmp 23) rfl (X := y) HZ5.out rfl (by rfl) ?_; intro w9 hz9 hb9 ha9 hs9))
  have HB9 := Lib.hid (hb9 w.heap.size w HB5.out HLE.out)
  have HS9 := Lib.hid (HSY.out.keep (w' := w9) ⟨by rw [hs9]; exact Nat.le_refl _, fun b hb _ => ha9 b hb.2⟩)
  clear hb9 ha9 hs9
  obtain ⟨o0, o1, o2, o3, o4, o5, o6⟩ := hz9.cells
  refine bodyPost_ret (v := .tuple #[exV y, errV 0]) ?_ rfl ?_
  ·simp [results, Tryz.results20, go_sem, o0, o1, o2, o3, o4, o5, o6, exV, errV_zero]
  ·exact HR2.out y w9 HK.out (HS9.out.mono fun b h => h.1) HST2.out HB9.out
 ·have qk : (k != 0) = true := by simpa using hk
  go_enter Tryz.func20, Tryz.ntmps20
  go_wp2_with (first | rw [HW0.out] | rw [HW1.out])
  refine (TK.out).mono ?_
  rintro e' w2 ⟨rfl, hb2⟩
  obtain ⟨w3, hw3⟩ : ∃ w3, w2.alloc (.cells #[.int .i64 k, .int .i64 tp] 34) = w3 := ⟨_, rfl⟩
  have hb3 := belowNew' w2 (.cells #[.int .i64 k, .int .i64 tp] 34)
  have ho3 := heap_alloc_new w2 (.cells #[.int .i64 k, .int .i64 tp] 34)
  rw [hw3] at hb3 ho3
  obtain ⟨q0, q1⟩ : w3.cell? ⟨w2.heap.size, 0, none⟩ = some (.int .i64 k) ∧ w3.cell? ⟨w2.heap.size, 1, none⟩ = some (.int .i64 tp) := ⟨by rw [cell_of_row _ _ _ _ _ _ ho3]; rfl, by rw [cell_of_row _ _ _ _ _ _ ho3]; rfl⟩
  have HN2 := Lib.hid hb2.size
  have HB23 := Lib.hid (below_step hb2 hb3)
  have HB3 := Lib.hid (HB1.out.trans (HB23.out.mono HB1.out.size))
  have HZ3 := Lib.hid (HZ1.out.keep HB23.out)
  have hz3 := HZ3.out.lt
  have HW3 := Lib.hid hw3
  have HK := Lib.hid hk
  clear hw3 hb2 hb3 ho3 hk TK d0 d1 d2 d3 d4 d5 d6
  have bd := fun (w : World) => run_build w 26 #[] #[.string ⟨#[]⟩, .string ⟨#[]⟩, .int .i64 0, .int .i64 0, .string ⟨#[]⟩, .slice none 0 0, .int .i64 0] (show Tryz.prog.built _ _ = _ by kernel_rfl)
  obtain ⟨z0, z1, z2, z3, z4, z5, z6⟩ := HZ3.out.cells
  obtain ⟨f0, f1, f2, f3, f4, f5, f6⟩ := HZ3.out.frees
  go_wp2_with (first | rw [HW3.out])
  have hne : w2.heap.size ≠ w0.heap.size := Nat.ne_of_gt (Nat.lt_of_lt_of_le HZ1.out.lt HN2.out)
  have g1 : (w3.setCell ⟨w0.heap.size, 0, none⟩ (.string ⟨#[]⟩)).cell? ⟨w2.heap.size, 0, none⟩ = some (.int .i64 k) := by
   rw [World.cell?_of_block (w := w3) (a := ⟨w2.heap.size, 0, none⟩) (heap_setCell_other _ _ _ _ hne), q0]
  go_region
  have h6 : Own7 (putAll w3 w0.heap.size 0 [.string ⟨#[]⟩, .string ⟨#[]⟩, .int .i64 0, .int .i64 0, .string ⟨#[]⟩, .slice none 0 0, .int .i64 0]) w0.heap.size zeroEx := HZ3.out.put zeroEx
  have hb6 := putAll_below [.string ⟨#[]⟩, .string ⟨#[]⟩, .int .i64 0, .int .i64 0, .string ⟨#[]⟩, .slice none 0 0, .int .i64 0] _ _ _ w0.heap.size 0 HB3.out HLE.out
  simp only [putAll, Nat.zero_add, Nat.reduceAdd] at h6 hb6
  have HO6 := Own7.keep h6 ((Below.refl _ _).drew)
  have HB6 := Lib.hid hb6.drew
  clear h6 hb6
  generalize (((((((w3.setCell ⟨w0.heap.size, 0, none⟩ (.string ⟨#[]⟩)).setCell ⟨w0.heap.size, 1, none⟩ (.string ⟨#[]⟩)).setCell ⟨w0.heap.size, 2, none⟩ (.int .i64 0)).setCell ⟨w0.heap.size, 3, none⟩ (.int .i64 0)).setCell ⟨w0.heap.size, 4, none⟩ (.string ⟨#[]⟩)).setCell ⟨w0.heap.size, 5, none⟩ (.slice none 0 0)).setCell ⟨w0.heap.size, 6, none⟩ (.int .i64 0)).drew = w6 at HO6 HB6 ⊢
  clear z0 z1 z2 z3 z4 z5 z6 f0 f1 f2 f3 f4 f5 f6 g1 hne bd
  go_wp2_with fail
  obtain ⟨o0, o1, o2, o3, o4, o5, o6⟩ := HO6.cells
  refine bodyPost_ret (v := .tuple #[exV zeroEx, errV k]) ?_ rfl ?_
  ·rw [errV_ne HK.out]
   simp [results, Tryz.results20, go_sem, o0, o1, o2, o3, o4, o5, o6, exV]
  ·exact HR1.out w6 HB6.out HK.out
end Go.Proofs.YtpbbkpfaphjdoaaGreatDoor
