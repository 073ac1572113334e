/- row.PrintSchema, walked: a schema as text. -/
import Derived.Test.YtpbbkpfaphjdoabGreatDoorSchLaw
import Derived.Test.YtpbbkpfaphjdoabGreatDoorStrJoin
import Derived.Test.YtpbbkpfaphjdoabGreatDoorOnly
import Derived.Deep.RegionLaw
namespace Go.Proofs.YtpbbkpfaphjdoabGreatDoor
open Go.ChangeShapes Go.WideShapes Go.ChangeAt Go.RowKit

def typesL : List (List UInt8) := [[], tyInt, tyBool, tyText]
def typesB : List ByteArray := typesL.map mkB
/-- What row.types holds. -/
def TypesT (w : World) : Prop := Sees w (some ⟨0, 0, none⟩) 4 4 1 (strCells typesB)
theorem TypesT.keep {w w' : World} (h : TypesT w) (hb : Below w.heap.size w w') : TypesT w' := Sees.keep h hb
theorem gTypes : Tryz.prog.globalNamed "sluicebook/row.types" = some 0 := by kernel_rfl
theorem tTypes : (Tryz.prog.globals[0]?).map (·.type) = some 85 := by kernel_rfl
theorem typesT_of {W : World} {l : List (String × DataW Unit)} (h : laidMet Tryz.prog l W) (hx : ("sluicebook/row.types", Rows.laid_sluicebook_row_types) ∈ l) : TypesT W := by
  obtain ⟨g, t, cs, fuel, p, hg, ht, hv, hd⟩ := laid_var h hx
  obtain rfl := Option.some.inj (gTypes.symm.trans hg)
  obtain rfl := Option.some.inj (tTypes.symm.trans ht)
  have hd' : DataW.trod (fun _ => ()) Tryz.prog W 0 (fun _ => true) false fuel 85 cs.toList = some (.agg (typesL.map litS), p) := hd
  have hel := open_arr_strs Tryz.underlying85 Tryz.underlying9 cellsS hd'
  have hc : ∀ (i : Nat) (s : ByteArray), typesB[i]? = some s → W.cell? ⟨0, i, none⟩ = some (.string s) := by
    intro i s hs
    unfold typesB at hs
    rw [List.getElem?_map] at hs
    obtain ⟨l, hl, rfl⟩ := Option.map_eq_some_iff.1 hs
    have hi : i < 4 := (List.getElem?_eq_some_iff.1 hl).1
    have := hel i l hl hi
    rw [World.var?_cell hg hv i, ← Array.getElem?_toList]
    exact this
  refine ⟨rfl, Nat.le_refl _, by unfold maxLen; omega, (fun e => by cases e), fun _ => ⟨_, _, rfl, World.block_lt_of_cell? W _ (hc 0 _ rfl), fun j u hu => ?_⟩⟩
  obtain ⟨s, hs, rfl⟩ := strCells_at hu
  rw [Nat.zero_add]
  exact hc j s hs
/-- The name of a type, where it lies. -/
theorem TypesT.at_ {w : World} (h : TypesT w) {t : Int} (ht : 1 ≤ t ∧ t ≤ 3) : ∃ k : Nat, t = k ∧ k < 4 ∧ w.cell? ⟨0, k, none⟩ = some (.string (mkB (tyName t))) := by
  obtain ⟨g, o, e, hg, hc⟩ := h.2.2.2.2 (by omega)
  injection e with e
  injection e with e1 e2
  subst e1 e2
  have : t = 1 ∨ t = 2 ∨ t = 3 := by omega
  rcases this with rfl | rfl | rfl
  · exact ⟨1, rfl, by omega, hc 1 _ rfl⟩
  · exact ⟨2, rfl, by omega, hc 2 _ rfl⟩
  · exact ⟨3, rfl, by omega, hc 3 _ rfl⟩
def colB (c : Col) : ByteArray := mkB (colText c)
theorem col_text (a : ByteArray) (l : List UInt8) : a ++ ⟨#[32]⟩ ++ mkB l = mkB (a.data.toList ++ 32 :: l) := by
  apply Go.WideShapes.bytes_inj
  rw [data_mkB]
  simp [mkB]
theorem box2' {w : World} {b : Nat} {x y : Value} {T : TypeId} (h : w.heap[b]? = some (.cells #[x, y] T (0, 0))) : w.cell? ⟨b, 0, none⟩ = some x ∧ w.cell? ⟨b, 1, none⟩ = some y := by
  constructor <;> (rw [cell_of_row _ _ _ _ _ _ h]; rfl)
theorem tyName_len (t : Int) : (tyName t).length ≤ 4 := by
  unfold tyName
  split
  · decide
  split
  · decide
  split
  · decide
  · decide
theorem schText_len (l : List Col) (h : ∀ c ∈ l, nameOk c.name.data.toList = true) : (schText l).length ≤ l.length * 14 := by
  have hx : ∀ c ∈ l, (colText c).length ≤ 13 := by
    intro c hc
    have h1 := h c hc
    unfold nameOk at h1
    simp only [Bool.and_eq_true, decide_eq_true_eq] at h1
    have h2 := tyName_len c.type
    unfold colText
    rw [List.length_append, List.length_cons]
    omega
  unfold schText
  clear h
  cases l with
  | nil => exact Nat.zero_le _
  | cons x l =>
    rw [List.map_cons, Lib.join_cons, List.length_append, Lib.joinTail_length, List.length_cons]
    have h1 := hx x (by simp)
    have h2 : Lib.lens (l.map colText) ≤ l.length * 13 := by
      clear h1
      induction l with
      | nil => simp [Lib.lens]
      | cons u l ih =>
        have h3 := hx u (by simp)
        have := ih (fun z hz => hx z (by rcases List.mem_cons.1 hz with rfl | hz <;> simp [*]))
        simp only [Lib.lens, List.map_cons, List.sum_cons, List.length_cons] at this ⊢
        omega
    simp only [List.length_map, List.length_cons, List.length_nil]
    omega
theorem own_grew' {w w1 w' : World} {B e size n : Nat} {v : Value} {xs : List Value} (h : w.ownsRow B e size v n xs) (hb : Below w.heap.size w w1) (hg : w1.grownBy w' v.ownBlock) (hB : B ≤ w.heap.size) : Below B w w' :=
  ((Only.of_below hb).trans (Only.of_grown (S := fun k => v.ownBlock = some k) hg (fun _ hk => hk.symm))).below hB (fun k hk => (h.lt k hk).1)
def SchPrintSays (l : List Col) (w : World) (e : Ending) (w' : World) : Prop := e = .returned (.tuple #[.string (if schemaErr l = 0 then mkB (schText l) else ⟨#[]⟩), errV (schemaErr l)]) ∧ Below w.heap.size w w'
set_option maxHeartbeats 2000000 in
set_option maxRecDepth 100000 in
theorem schPrint_any (l : List Col) (A : Option Addr) (n c : Nat) (w : World) (hl : SeesCols w A n c l) (hs : ∀ x ∈ l, x.name.size ≤ maxLen) (hT : TypesT w) :
    Calls Tryz.prog 16 #[.slice A n c] w (SchPrintSays l w) := by
  have TS := Lib.hid (rschema_any l A n c w hl hs)
  by_cases h0 : schemaErr l = 0
  · have H0 := Lib.hid h0
    obtain ⟨hne, h6, hcs⟩ := schemaErr_zero h0
    have HL := Lib.hid hl
    have HLN := Lib.hid hl.1
    have HCS := Lib.hid hcs
    have HT := Lib.hid hT
    have h6' : n ≤ 6 := by rw [← hl.1]; exact h6
    have hcap := hl.2.2.1
    have hmax := hl.2.2.2.1
    unfold maxLen at hmax
    rw [h0, errV_zero] at TS
    clear h0 hne h6 hcs hl hs hT
    go_enter Tryz.func16, Tryz.ntmps16
    go_wp2_with fail
    refine (TS.out).mono ?_
    rintro e w1 ⟨rfl, hb1⟩
    have HB1 := Lib.hid hb1
    clear hb1 TS
    go_wp2_with fail
    go_loopw [5, 15] (fun out iv wr => ∃ k : Nat, k ≤ n ∧ iv = .int .i64 k ∧ wr.ownsRow w1.heap.size 9 1 out k (strCells ((l.take k).map colB)) ∧ Below w1.heap.size w1 wr) (fun _ iv _ => n - (intOf iv).toNat)
    case atStart => exact ⟨0, by omega, rfl, World.ownsRow_nil _ _ _ _, Below.refl _ _⟩
    case round =>
      obtain ⟨k, hk, rfl, hown, hb⟩ := hrel
      by_cases hlk : k < n
      · have HBw := Lib.hid (below_step HB1.out hb)
        obtain ⟨g, o, x, rfl, hg, hx, c0, c1⟩ := (HL.out.keep HBw.out).at_ hlk
        obtain ⟨w3, hw3⟩ : ∃ w3, wr.alloc (.cells #[.string x.name, .int .i64 x.type] 61) = w3 := ⟨_, rfl⟩
        have hb3' : Below wr.heap.size wr w3 := by rw [← hw3]; exact belowNew' _ _
        have hox := heap_alloc_new wr (.cells #[.string x.name, .int .i64 x.type] 61)
        rw [hw3] at hox
        obtain ⟨q0, q1⟩ := box2' hox
        have hbx : wr.heap.size < w3.heap.size := (Array.getElem?_eq_some_iff.1 hox).1
        have hown3 := own_keep hown hb3'
        have hb3 := hb.trans (hb3'.mono hb.size)
        obtain ⟨j, hj, hj4, ct⟩ := (HT.out.keep (below_step HBw.out hb3')).at_ (HCS.out x (List.mem_of_getElem? hx)).2
        have hgt := World.block_lt_of_cell? w3 _ ct
        have HXB := Lib.hid (show strCells ((l.take (k + 1)).map colB) = strCells ((l.take k).map colB) ++ [.string (x.name ++ ⟨#[32]⟩ ++ mkB (tyName x.type))] by rw [List.take_add_one, hx, List.map_append, col_text]; simp [strCells, colB, colText])
        have hk6 : k ≤ 6 := by omega
        have hns : x.name.size ≤ 8 := by
          have h1 := (HCS.out x (List.mem_of_getElem? hx)).1
          unfold nameOk at h1
          simp only [Bool.and_eq_true, decide_eq_true_eq] at h1
          rw [← size_eq]; exact h1.2.2
        have hts : (mkB (tyName x.type)).size ≤ 4 := tyName_len x.type
        generalize mkB (tyName x.type) = tn at ct HXB hts
        have s1 : ¬ (9223372036854775807 < x.name.size + 1) := by omega
        have s2 : ¬ (9223372036854775807 < x.name.size + 1 + tn.size) := by omega
        have HJ := Lib.hid hj
        have i1 : (j : Int) < 4 := by omega
        have i2 : (0 : Int) ≤ j := by omega
        have HW3 := Lib.hid hw3
        rw [hj] at hw3 q1 c1
        clear hb hown hb3' hx hg hox hbx hj
        have HW4 := Lib.hid hw3
        clear hw3 HW3
        go_wp2_with (first | rw [HW4.out])
        have HO3 := Lib.hid hown3
        have HB3 := Lib.hid hb3
        clear hown3 hb3
        go_region_law (refine step_append_one strSlice rfl (.tmp 19) (.tmp 28) rfl (by simp [Act.eval]) (by simp [Act.eval]; rfl) HO3.out HB3.out.size rfl (by intro u hu; simp at hu; subst hu; rfl) (by omega) ?_; intro g5 cap5 w5 hown5 hg5 hat5; have HB5 := Lib.hid (HB3.out.trans (own_grew' HO3.out (((Below.refl _ _).alloc (Nat.le_refl _) _).drew) hg5 HB3.out.size)); have HO5 := Lib.hid hown5; clear hown5 hg5 hat5)
        all_goals
          go_wp2_with fail
          go_roundw
          case rel => exact ⟨k + 1, by omega, by go_num, by rw [HXB.out]; exact HO5.out, HB5.out⟩
          case measure => simp [intOf]; omega
      · obtain rfl : k = n := by omega
        have HTK := Lib.hid (show l.take k = l from List.take_of_length_le (by rw [HLN.out]; exact Nat.le_refl _))
        rw [HTK.out] at hown
        obtain ⟨A', c', rfl, hse⟩ := Sees.of_own hown
        have hmp : (l.map colB).map (·.data.toList) = l.map colText := by rw [List.map_map]; exact List.map_congr_left fun x _ => data_mkB _
        have hlen := schText_len l (fun x hx => (HCS.out x hx).1)
        rw [HLN.out] at hlen
        have TJ := Lib.hid (join_seen A' k c' (l.map colB) ⟨#[44]⟩ wr hse (by omega) (by rw [hmp]; show (schText l).length ≤ _; omega))
        rw [hmp, show Lib.join (l.map colText) (⟨#[44]⟩ : ByteArray).data.toList = schText l from rfl] at TJ
        have HB := Lib.hid (below_step HB1.out hb)
        clear hse hown hb hmp hlen
        go_wp2_with fail
        refine (TJ.out).mono ?_
        rintro e w2 ⟨rfl, hb2⟩
        have HB2 := Lib.hid (below_step HB.out hb2)
        clear hb2
        go_wp2_with fail
        go_ret2
        exact ⟨by rw [H0.out, if_pos rfl, errV_zero]; rfl, HB2.out⟩
  · have HR := Lib.hid (fun (w' : World) (hb : Below w.heap.size w w') => show SchPrintSays l w (.returned (.tuple #[.string ⟨#[]⟩, .iface 62 (.int .i64 (schemaErr l))])) w' from ⟨by rw [if_neg h0, errV_ne h0], hb⟩)
    rw [errV_ne h0] at TS
    clear h0 hl hs hT
    go_enter Tryz.func16, Tryz.ntmps16
    go_wp2_with fail
    refine (TS.out).mono ?_
    rintro e w1 ⟨rfl, hb1⟩
    go_wp2_with fail
    go_ret2
    exact HR.out _ hb1
end Go.Proofs.YtpbbkpfaphjdoabGreatDoor
