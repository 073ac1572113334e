/- Of the law KindParts: the card Rows.KindPartsCardSaid, without any condition: whatever the operation, the expressions and the columns, it returns true. -/
import Derived.Test.YtapbmknimejldaaDoorFrame
import Derived.Test.YtapbmknimejldaaDoorKindLaw
import Derived.Test.YtapbmknimejldaaDoorCards
import Derived.Test.YtapbmknimejldaaDoorTie
import Derived.Test.YtapbmknimejldaaDoorOpenEx
import Derived.Test.YtapbmknimejldaaDoorOpenCols
import Derived.LaidLaws
import Derived.LaidMore
import Derived.LaidHandle
import Derived.Stop.Joined
import Derived.SevenTiedAt
import Derived.Deep.DeepWitnessRowRef
import Derived.Deep.DeepHandedRow
namespace Go.Proofs.YtapbmknimejldaaDoor.kindParts
open Go.ChangeShapes Go.WideShapes Go.ChangeAt Go.RowKit

def e0 : Ex := .mk ⟨#[99, 111, 108]⟩ ⟨#[120]⟩ noVal none 0 [] 0
def cols0 : List Col := [⟨⟨#[120]⟩, 3⟩]
theorem fact0 : typeOf cols0 e0 = ⟨3, 0, 0⟩ := by kernel_rfl
theorem sees0 (w : World) : SeesEx w e0 := .mk (Sees.nil w 7) (by decide) (by decide) ⟨by decide, by decide, by decide⟩ (by decide) (fun a h => by cases h)
theorem seesC0 (w : World) : SeesCols (w.alloc (.cells #[.string ⟨#[120]⟩, .int .i64 3] 46)) (some ⟨w.heap.size, 0, none⟩) 1 1 cols0 := by
  refine ⟨rfl, rfl, Nat.le_refl _, by unfold maxLen; omega, (fun e => by cases e), fun _ => ⟨_, _, rfl, by simp, fun j u hu => ?_⟩⟩
  rw [Nat.zero_add, cell_of_row _ _ _ _ _ _ (heap_alloc_new w _), ← Array.getElem?_toList]
  exact hu

set_option maxHeartbeats 2000000 in
set_option maxRecDepth 100000 in
theorem walk (op : ByteArray) (A : Option Addr) (c : Nat) (l : List Ex) (C : Option Addr) (p q : Nat) (cols : List Col) (w : World) (hT : Tables w)
    (hop : op.size ≤ maxLen) (hs : Sees w A l.length c 7 (exsCells l)) (hl : ∀ x ∈ l, SeesEx w x) (hC : SeesCols w C p q cols) (hcs : ∀ x ∈ cols, x.name.size ≤ maxLen) :
    Calls Tryd.prog 4 #[.string op, .slice A l.length c, .slice C p q] w fun e w' => e = .returned (.bool true) ∧ Below w.heap.size w w' := by
  have he : SeesEx w (.mk op ⟨#[]⟩ noVal A c l 7) := .mk hs hop (Nat.zero_le _) ⟨show fits 0 by decide, show fits 0 by decide, Nat.zero_le _⟩ (show fits 7 by decide) hl
  have hb0 : Below w.heap.size w (w.alloc (.cells #[.string ⟨#[120]⟩, .int .i64 3] 46)) := (Below.refl _ _).alloc (Nat.le_refl _) _
  have HE := Lib.hid (he.keep hb0)
  have HT := Lib.hid (hT.keep hb0)
  have HC := Lib.hid (hC.keep hb0)
  have HB := Lib.hid hb0
  have HCS := Lib.hid hcs
  have hcap : l.length ≤ c := hs.2.1
  have hmax : c ≤ maxLen := hs.2.2.1
  unfold maxLen at hmax
  have T0 : Calls Tryd.prog 14 #[.agg #[.string ⟨#[99, 111, 108]⟩, .string ⟨#[120]⟩, .int .i64 0, .int .i64 0, .string ⟨#[]⟩, .slice none 0 0, .int .i64 0], .slice (some ⟨w.heap.size, 0, none⟩) 1 1] _ _ :=
    typeOf_any e0 _ 1 1 cols0 _ HT.out (seesC0 w) (by intro x hx; simp [cols0] at hx; subst hx; decide) (sees0 _)
  rw [fact0] at T0
  have HT0 := Lib.hid T0
  clear hT hop hl hC hcs he hb0 T0 hs
  generalize hn : l.length = n at hcap ⊢
  have HLn := Lib.hid hn
  clear hn
  go_enter Tryd.func4, Tryd.ntmps4
  go_wp2_with fail
  generalize w.alloc (.cells #[.string ⟨#[120]⟩, .int .i64 3] 46) = w0 at HE HT HC HB HT0 ⊢
  refine (HT0.out).mono ?_
  rintro e' w1 ⟨rfl, hb1⟩
  have HB1 := Lib.hid (below_step HB.out hb1)
  have HE1 := Lib.hid (HE.out.keep hb1)
  have HT1 := Lib.hid (HT.out.keep hb1)
  have HC1 := Lib.hid (HC.out.keep hb1)
  clear HB HE HT HC HT0 hb1
  unfold resV
  go_wp2_with fail
  obtain ⟨w2, hw2⟩ : ∃ w2, (w1.alloc (.cells #[.int .i64 0, .int .i64 0] 40)).alloc (.cells #[.string op, .string ⟨#[]⟩, .int .i64 0, .int .i64 0, .string ⟨#[]⟩, .slice A n c, .int .i64 7] 44) = w2 := ⟨_, rfl⟩
  have hb2 : Below w1.heap.size w1 w2 := by rw [← hw2]; exact ((Below.refl _ _).alloc (Nat.le_refl _) _).alloc (by simp) _
  have CE0 := Lib.hid (show ∀ (j : Nat) (u : Value), (#[.string op, .string ⟨#[]⟩, .int .i64 0, .int .i64 0, .string ⟨#[]⟩, .slice A n c, .int .i64 7] : Array Value)[j]? = some u → w2.cell? ⟨w1.heap.size + 1, j, none⟩ = some u by
    intro j u hu
    rw [← hw2]
    have hh := heap_alloc_new (w1.alloc (.cells #[.int .i64 0, .int .i64 0] 40)) (.cells #[.string op, .string ⟨#[]⟩, .int .i64 0, .int .i64 0, .string ⟨#[]⟩, .slice A n c, .int .i64 7] 44)
    rw [show (w1.alloc (.cells #[.int .i64 0, .int .i64 0] 40)).heap.size = w1.heap.size + 1 by simp] at hh
    rw [cell_of_row _ _ _ _ _ _ hh]
    exact hu)
  have hlt2 : w1.heap.size + 1 < w2.heap.size := by rw [← hw2]; simp
  have CE := Lib.hid (fun (w' : World) (hb : Below w2.heap.size w2 w') (j : Nat) (u : Value) hu => (hb.cell (p := ⟨w1.heap.size + 1, j, none⟩) hlt2).trans (CE0.out j u hu))
  rw [hw2]
  have HB2 := Lib.hid (below_step HB1.out hb2)
  have HE2 := Lib.hid (HE1.out.keep hb2)
  have HT2 := Lib.hid (HT1.out.keep hb2)
  have HC2 := Lib.hid (HC1.out.keep hb2)
  clear HB1 HE1 HT1 HC1 hb2 hw2 hlt2 CE0
  have TC0 : Calls Tryd.prog 15 #[.agg #[.string op, .string ⟨#[]⟩, .int .i64 0, .int .i64 0, .string ⟨#[]⟩, .slice A l.length c, .int .i64 7]] w2 _ := check_any (.mk op ⟨#[]⟩ noVal A c l 7) w2 HT2.out.lev HT2.out.words HE2.out
  rw [HLn.out] at TC0
  have TC := Lib.hid TC0
  clear TC0
  refine (TC.out).mono ?_
  rintro e' w3 ⟨rfl, hb3⟩
  have HB3 := Lib.hid hb3
  clear TC hb3
  by_cases hk : checkErr (.mk op ⟨#[]⟩ noVal A c l 7) = 0
  · have HK := Lib.hid hk
    rw [hk, errV_zero]
    clear hk
    have HL3 := Lib.hid (checkErr_len HK.out)
    have hn3 : n ≤ 3 := by have := HL3.out.2; have h2 := HLn.out; simp only [Ex.args] at this; omega
    by_cases hn0 : n = 0
    · subst hn0
      go_wp2_with fail
      go_ret
      exact ⟨rfl, below_step HB2.out HB3.out⟩
    · have d0 : ((n : Int) == 0) = false := by simp; omega
      go_wp2_with fail
      go_loopw [10, 11] (fun ts i wr => ∃ k : Nat, k ≤ n ∧ i = .int .i64 k ∧ wr.ownsRow w2.heap.size 3 1 ts k (intCells ((l.take k).map fun a => (typeOf cols a).t)) ∧ Below w2.heap.size w2 wr ∧ ∀ x ∈ l.take k, (typeOf cols x).h = 0) (fun _ i _ => n - (intOf i).toNat)
      case atStart => exact ⟨0, by omega, rfl, World.ownsRow_nil _ _ _ _, HB3.out, by simp⟩
      case round =>
        obtain ⟨k, hk, rfl, hown, hb, hno⟩ := hrel
        have HN := Lib.hid hno
        have HBR := Lib.hid hb
        have HSZ := Lib.hid hb.size
        clear hno
        by_cases hlk : k < n
        · obtain ⟨g, o, x, (rfl : A = _), hg, hx, hsx, c0, c1, c2, c3, c4, c5, c6⟩ := (HE2.out.keep hb).at_ (k := k) (by show k < l.length; rw [HLn.out]; exact hlk)
          have HX := Lib.hid (show l[k]? = some x from hx)
          have T := Lib.hid (typeOf_any x C p q cols wr (HT2.out.keep hb) (HC2.out.keep hb) HCS.out hsx)
          unfold exV at T
          have HOW := Lib.hid hown
          have ET := Lib.hid (fun h => typeOf_fault (cols := cols) HK.out HX.out HN.out h)
          have EN := Lib.hid (show intCells ((l.take (k + 1)).map fun a => (typeOf cols a).t) = intCells ((l.take k).map fun a => (typeOf cols a).t) ++ [.int .i64 (typeOf cols x).t] by rw [List.take_add_one, HX.out]; simp [intCells])
          have EX := Lib.hid (show (typeOf cols x).h = 0 → ∀ y ∈ l.take (k + 1), (typeOf cols y).h = 0 by
            intro h0 y hy
            rw [List.take_add_one, HX.out] at hy
            rcases List.mem_append.1 hy with hy | hy
            · exact HN.out y hy
            · simp at hy; subst hy; exact h0)
          clear hb hx hsx hown
          generalize typeOf cols x = r at T ET EN EX
          obtain ⟨rt, rh, rp⟩ := r
          by_cases hrh : rh = 0
          · have EX2 := Lib.hid (EX.out hrh)
            subst hrh
            clear EX ET
            go_wp2_with fail
            refine (T.out).mono ?_
            rintro e' w4 ⟨rfl, hb1⟩
            obtain ⟨w5, hw5⟩ : ∃ w5, w4.alloc (.cells #[.int .i64 0, .int .i64 rp] 40) = w5 := ⟨_, rfl⟩
            have hbx := below_step hb1 ((Below.refl w4.heap.size w4).alloc (Nat.le_refl _) (.cells #[.int .i64 0, .int .i64 rp] 40))
            have k0 : w5.cell? ⟨w4.heap.size, 0, none⟩ = some (.int .i64 0) := by rw [← hw5]; simp
            rw [hw5] at hbx
            have hown1 := own_keep HOW.out hbx
            have hb2 := (HBR.out).trans (hbx.mono HSZ.out)
            have HW5 := Lib.hid hw5
            clear hb1 hbx hw5
            unfold resV
            go_wp2_with (first
              | rw [HW5.out]
              | (at_builtin; refine wpList_append_one intSlice rfl _ _ rfl rfl rfl hown1 hb2 (Nat.le_refl _) rfl (by intro u hu; simp at hu; subst hu; rfl) (by omega) ?_; intro v1 w6 hown2 hb3 _))
            go_roundw
            case rel => exact ⟨k + 1, by omega, by go_num, by rw [EN.out]; exact hown2, hb3, EX2.out⟩
            case measure => simp [intOf]; omega
          · have E := Lib.hid (ET.out hrh)
            have e1 : (rh != 0) = true := by simpa using hrh
            clear EX ET hrh
            go_wp2_with fail
            refine (T.out).mono ?_
            rintro e' w4 ⟨rfl, hb1⟩
            obtain ⟨w5, hw5⟩ : ∃ w5, w4.alloc (.cells #[.int .i64 rh, .int .i64 rp] 40) = w5 := ⟨_, rfl⟩
            have hbx := below_step hb1 ((Below.refl w4.heap.size w4).alloc (Nat.le_refl _) (.cells #[.int .i64 rh, .int .i64 rp] 40))
            have k0 : w5.cell? ⟨w4.heap.size, 0, none⟩ = some (.int .i64 rh) := by rw [← hw5]; simp
            have k1 : w5.cell? ⟨w4.heap.size, 1, none⟩ = some (.int .i64 rp) := by rw [← hw5]; simp
            have hl5 : w4.heap.size < w5.heap.size := by rw [← hw5]; simp
            rw [hw5] at hbx
            have hb5 := (HBR.out).trans (hbx.mono HSZ.out)
            have K0 := Lib.hid k0
            have K1 := Lib.hid k1
            have T6 : Calls Tryd.prog 14 #[.agg #[.string op, .string ⟨#[]⟩, .int .i64 0, .int .i64 0, .string ⟨#[]⟩, .slice (some ⟨g, o, none⟩) l.length c, .int .i64 7], .slice C p q] w5 _ := typeOf_any (.mk op ⟨#[]⟩ noVal (some ⟨g, o, none⟩) c l 7) C p q cols w5 (HT2.out.keep hb5) (HC2.out.keep hb5) HCS.out (HE2.out.keep hb5)
            rw [E.out, HLn.out] at T6
            have HT6 := Lib.hid T6
            have HB5 := Lib.hid hb5
            have d0 := CE.out w5 hb5 0 _ rfl
            have d1 := CE.out w5 hb5 1 _ rfl
            have d2 := CE.out w5 hb5 2 _ rfl
            have d3 := CE.out w5 hb5 3 _ rfl
            have d4 := CE.out w5 hb5 4 _ rfl
            have d5 := CE.out w5 hb5 5 _ rfl
            have d6 := CE.out w5 hb5 6 _ rfl
            have HW5 := Lib.hid hw5
            clear hb1 hbx hw5 hb5 T6
            unfold resV
            go_wp2_with (first | rw [HW5.out])
            refine (HT6.out).mono ?_
            rintro e' w7 ⟨rfl, hb7⟩
            have HB7 := Lib.hid (below_step HB5.out hb7)
            have j0 := (hb7.cell (p := ⟨w4.heap.size, 0, none⟩) hl5).trans K0.out
            have j1 := (hb7.cell (p := ⟨w4.heap.size, 1, none⟩) hl5).trans K1.out
            have hl7 : w4.heap.size < w7.heap.size := Nat.lt_of_lt_of_le hl5 hb7.size
            obtain ⟨w8, hw8⟩ : ∃ w8, w7.alloc (.cells #[.int .i64 rh, .int .i64 rp] 40) = w8 := ⟨_, rfl⟩
            have hb8 : Below w7.heap.size w7 w8 := by rw [← hw8]; exact (Below.refl _ _).alloc (Nat.le_refl _) _
            have i0 : w8.cell? ⟨w7.heap.size, 0, none⟩ = some (.int .i64 rh) := by rw [← hw8]; simp
            have i1 : w8.cell? ⟨w7.heap.size, 1, none⟩ = some (.int .i64 rp) := by rw [← hw8]; simp
            have i2 := (hb8.cell (p := ⟨w4.heap.size, 0, none⟩) hl7).trans j0
            have i3 := (hb8.cell (p := ⟨w4.heap.size, 1, none⟩) hl7).trans j1
            have HW8 := Lib.hid hw8
            have HB8 := Lib.hid (below_step HB7.out hb8)
            clear hb7 j0 j1 hl5 hl7 k0 k1 d0 d1 d2 d3 d4 d5 d6 hw8 hb8
            unfold resV
            go_wp2_with (first | rw [HW8.out])
            go_ret
            exact ⟨rfl, below_step HB2.out HB8.out⟩
        · obtain rfl : n = k := by omega
          have htk : l.take n = l := List.take_of_length_le (by rw [HLn.out]; exact Nat.le_refl _)
          rw [htk] at hown
          have HF := Lib.hid (show ∀ x ∈ l, (typeOf cols x).h = 0 by have := HN.out; rwa [htk] at this)
          have E := Lib.hid (show typeOf cols (.mk op ⟨#[]⟩ noVal A c l 7) = if ruleErr op (l.map fun a => (typeOf cols a).t) ≠ 0 then ⟨0, 8, 7⟩ else ⟨ruleTy op (l.map fun a => (typeOf cols a).t), 0, 0⟩ from
            typeOf_whole (cols := cols) HK.out (by show 0 < l.length; rw [HLn.out]; omega) HF.out)
          obtain ⟨A2, c2, rfl, hs2⟩ := Sees.of_own hown
          have T := Lib.hid (rule_any op (l.map fun a => (typeOf cols a).t) A2 n c2 wr (HT2.out.keep hb).ops (HT2.out.keep hb).lev hs2)
          clear hb hown htk hs2
          generalize ruleTy op (l.map fun a => (typeOf cols a).t) = rt at T E
          generalize ruleErr op (l.map fun a => (typeOf cols a).t) = rk at T E
          have TO := Lib.hid (fun w5 hb5 => show Calls Tryd.prog 14 #[.agg #[.string op, .string ⟨#[]⟩, .int .i64 0, .int .i64 0, .string ⟨#[]⟩, .slice A l.length c, .int .i64 7], .slice C p q] w5 _ from typeOf_any (.mk op ⟨#[]⟩ noVal A c l 7) C p q cols w5 (HT2.out.keep hb5) (HC2.out.keep hb5) HCS.out (HE2.out.keep hb5))
          rw [HLn.out] at TO
          generalize typeOf cols (.mk op ⟨#[]⟩ noVal A c l 7) = r at TO E
          go_wp2_with fail
          refine (T.out).mono ?_
          rintro e' w4 ⟨rfl, hb4⟩
          have HB4 := Lib.hid ((HBR.out).trans (hb4.mono HSZ.out))
          clear hb4
          have T6 := Lib.hid (TO.out w4 HB4.out)
          have d0 := CE.out w4 HB4.out 0 _ rfl
          have d1 := CE.out w4 HB4.out 1 _ rfl
          have d2 := CE.out w4 HB4.out 2 _ rfl
          have d3 := CE.out w4 HB4.out 3 _ rfl
          have d4 := CE.out w4 HB4.out 4 _ rfl
          have d5 := CE.out w4 HB4.out 5 _ rfl
          have d6 := CE.out w4 HB4.out 6 _ rfl
          by_cases hr : rk = 0
          · obtain rfl : r = ⟨rt, 0, 0⟩ := by rw [E.out, if_neg (by simp [hr])]
            subst hr
            rw [errV_zero]
            go_wp2_with fail
            refine (T6.out).mono ?_
            rintro e' w7 ⟨rfl, hb7⟩
            have HB7 := Lib.hid (below_step (below_step HB4.out hb7) ((Below.refl w7.heap.size w7).alloc (Nat.le_refl _) (.cells #[.int .i64 0, .int .i64 0] 40)))
            clear hb7
            unfold resV
            go_wp2_with fail
            go_ret
            exact ⟨rfl, below_step HB2.out HB7.out⟩
          · obtain rfl : r = ⟨0, 8, 7⟩ := by rw [E.out, if_pos hr]
            rw [errV_ne hr]
            clear hr E
            go_wp2_with fail
            refine (T6.out).mono ?_
            rintro e' w7 ⟨rfl, hb7⟩
            have HB7 := Lib.hid (below_step (below_step HB4.out hb7) ((Below.refl w7.heap.size w7).alloc (Nat.le_refl _) (.cells #[.int .i64 8, .int .i64 7] 40)))
            clear hb7
            unfold resV
            go_wp2_with fail
            go_ret
            exact ⟨rfl, below_step HB2.out HB7.out⟩
  · have HK := Lib.hid (errV_ne hk)
    rw [HK.out]
    clear hk
    go_wp2_with fail
    go_ret
    exact ⟨rfl, below_step HB2.out HB3.out⟩

set_option maxRecDepth 100000 in
theorem contract (H : Type) (enc : TypeId × Value → H) (W : World) (base : Nat) (args : Array Value) (ds gs : List (DataW H)) (before : List MemPlace)
    (hval : ∀ (j : Nat) t v, Tryd.f4.params[j]? = some t → args[j]? = some v → Value.okWide Tryd.prog W .any base t v)
    (hW : DataW.Whole enc Tryd.prog Tryd.f4.params.toList Rows.kindPartsSpec.vars false W args.toList ds gs before)
    (hsz : (DataW.weightsEach Tryd.prog (Tryd.f4.params.toList ++ (OpenSpec.ofChange Rows.kindPartsSpec).bare.plain.varTypes Tryd.prog) (ds ++ gs)).all (· ≤ reachBytes) = true) (hL : laidMetH Tryd.prog Rows.kindPartsRow.laid W) :
    Calls Tryd.prog 4 args W fun e W' => ∃ v, e = .returned v ∧ Rows.kindPartsSpec.post enc Tryd.prog Tryd.f4 false true false false W args v W' := by
  have hW' := hW
  obtain ⟨p, q, hA0, hV, rfl, hfz, hnd⟩ := hW
  have hA : DataW.TrodAll enc Tryd.prog W 0 (fun _ => true) true Tryd.f4.params.toList args.toList ds p := hA0
  rw [Tryd.params4] at hA hval
  obtain ⟨v0, vs0, d0, ds0, p0, q0, hargs, rfl, rfl, h0, r0⟩ := trodAll_cons hA
  obtain ⟨v1, vs1, d1, ds1, p1, q1, rfl, rfl, rfl, h1, r1⟩ := trodAll_cons r0
  obtain ⟨v2, vs2, d2, ds2, p2, q2, rfl, rfl, rfl, h2, r2⟩ := trodAll_cons r1
  obtain ⟨rfl, rfl, rfl⟩ := trodAll_nil r2
  obtain rfl : args = #[v0, v1, v2] := by cases args; simp_all
  obtain ⟨rfl, rfl⟩ := trodVars_none hV
  obtain ⟨a0, rfl, rfl, rfl, w0⟩ := Go.ChangeMaps.open_string Tryd.underlying9 (hval 0 9 v0 rfl rfl) h0
  have hv1 := hval 1 36 v1 rfl rfl
  have hv2 := hval 2 37 v2 rfl rfl
  obtain ⟨A, c, l, rfl, hs, hl⟩ := open_exs (okWide_slice Tryd.underlying36 hv1) h1
  obtain ⟨C, p, q, cols, rfl, hC, hcs⟩ := open_cols (okWide_slice Tryd.underlying37 hv2) h2
  have hL0 : laidMet Tryd.prog Rows.kindPartsRow.laid W := hL
  refine (walk a0 A c l C p q cols W ⟨levelsT_of hL0 (.tail _ (.head _)), opsT_of hL0 (.tail _ (.tail _ (.head _))), wordsT_of hL0 (.head _)⟩ w0 hs hl hC (fun x hx => (hcs x hx).1)).mono fun e W' ⟨he, hb⟩ => ?_
  subst he
  exact ⟨_, rfl, law_post laidOut Tryd.underlying4 (by kernel_rfl) rfl (by rw [Tryd.params4]; intro t ht; simp only [List.mem_cons, List.not_mem_nil, or_false] at ht; rcases ht with rfl | rfl | rfl; all_goals exact ⟨by kernel_rfl, of_decide_eq_true (by kernel_rfl)⟩) hW' rfl hb⟩

theorem reads (os : Os) {H : Type} (enc : TypeId × Value → H) : ∃ places, DataW.whole enc Tryd.prog ((World.doorLaid Tryd.prog 4000 os).forCall (fun _ _ => 0) ⟨#[], #[.string .empty, .slice none 0 0, .slice none 0 0], []⟩).memory Tryd.f4.params.toList Rows.kindPartsSpec.vars false (#[.string .empty, .slice none 0 0, .slice none 0 0] : Array Value).toList 8 = some ([.lit (.string []), .nil, .nil], [], places) :=
  ⟨[], by kernel_rfl⟩

set_option maxRecDepth 100000 in
theorem lifted (os : Os) (started : os.Started) (H : Type) (enc : TypeId × Value → H) (F : Stop.Interp) :
    ReturnsInHanded {} Tryd.checked os 4 .any ((OpenSpec.ofChange Rows.kindPartsSpec).preRow enc Tryd.prog Tryd.f4 Rows.kindPartsRow.domain false Rows.kindPartsRow.laid) (((OpenSpec.ofChange Rows.kindPartsSpec).at F).post enc Tryd.prog Tryd.f4 false true false false) := by
  obtain ⟨places, hx⟩ := reads os enc
  refine returnsInHanded_of_row (C := Tryd.checked) (s := OpenSpec.ofChange Rows.kindPartsSpec) own started (by kernel_rfl) Tryd.func4
    (witness_row_atRef (enc := enc) (C := Tryd.checked) false (World.doorLaid Tryd.prog 4000 os) #[.string .empty, .slice none 0 0, .slice none 0 0] rfl (by kernel_rfl) (by kernel_rfl) (by kernel_rfl)
      (OpenSpec.preRow_of_cond 8 hx (by kernel_rfl) (fun k hk => by cases hk) (by kernel_rfl) (laidMet_of_run' 12 (by kernel_rfl) (by kernel_rfl)))) ?_
  intro W base args ds gs before hval hW _ _ hsz hL _ _
  exact contract H enc W base args ds gs before hval hW hsz hL

theorem said : Rows.KindPartsSaid :=
  OpenClaim.holds_of_cond 4 Tryd.f4 rfl rfl rfl rfl rfl rfl rfl ⟨rfl, rfl, rfl, rfl, rfl⟩ rfl rfl rfl rfl rfl (by kernel_rfl) Tryd.func4 (by kernel_rfl)
    (of_decide_eq_true (by kernel_rfl)) (by unfold Func.isWrapper; first | (rw [if_pos (by decide +kernel)]; kernel_rfl) | (rw [if_neg (by decide +kernel)]; exact ⟨rfl, rfl⟩))
    (fun os started H enc _ F => by rw [OpenClaim.pre_eq_preRow]; exact lifted os started H enc F)

theorem plain (f : FuncId) (fn : Func) (hf : Tryd.pinned.checked.prog.funcNamed "sluicebook/sluicelaw4.KindParts" = some f) (hfn : Tryd.pinned.checked.prog.funcs[f]? = some fn) :
    true = Tryd.pinned.checked.prog.looks [] ∧ ∀ (j : Nat) t, fn.params[j]? = some t → Tryd.pinned.checked.prog.wantsStandIn t = false := by
  obtain rfl : f = 4 := Option.some.inj ((show Tryd.prog.funcNamed "sluicebook/sluicelaw4.KindParts" = some 4 by kernel_rfl).symm.trans hf) |>.symm
  obtain rfl : fn = Tryd.f4 := (Option.some.inj (Tryd.func4.symm.trans hfn)).symm
  refine ⟨by kernel_rfl, fun j t ht => ?_⟩
  rw [Tryd.params4] at ht
  have hm := Array.mem_of_getElem? ht
  simp only [List.mem_toArray, List.mem_cons, List.not_mem_nil, or_false] at hm
  rcases hm with rfl | rfl | rfl
  · exact (show Tryd.prog.wantsStandIn 9 = false by kernel_rfl)
  · exact (show Tryd.prog.wantsStandIn 36 = false by kernel_rfl)
  · exact (show Tryd.prog.wantsStandIn 37 = false by kernel_rfl)

theorem card : Rows.KindPartsCardSaid :=
  Claim7.holds_tied_plain_at .later [] _ _ _ _ said (fun _ h => by cases h) (by kernel_rfl) (fun _ h => by cases h) kindParts_row_tie rfl ⟨rfl, rfl⟩ (by kernel_rfl) rfl plain (by kernel_rfl)
#print axioms card
end Go.Proofs.YtapbmknimejldaaDoor.kindParts
