/- sluiceref1.Do, at any values that are right for the operation. sluiceref1.Row, walked: what is wrong with a row. sluicesame.Ints, walked: are two lists of numbers the same? -/
import Derived.Test.YthmbafkedgahaaaGreatDoorRefDo
import Derived.Test.YthmbafkedgahaaaGreatDoorRefRule
import Derived.Test.YthmbafkedgahaaaGreatDoorRowCheck
import Derived.Test.YthmbafkedgahaaaGreatDoorRefVal
import Derived.Test.YthmbafkedgahaaaGreatDoorRefBase
import Derived.Test.YthmbafkedgahaaaGreatDoorAnyInt
import Derived.Deep.QuietTactic
import Derived.BigQuiet
namespace Go.Proofs.YthmbafkedgahaaaGreatDoor
open Go.ChangeShapes Go.WideShapes Go.ChangeAt Go.RowKit

theorem same_type {x y : Val} (h : fitsGrp 1 (typesOf [x, y]) = true) : x.type = y.type := by
  rw [two_fits rfl] at h
  exact (allThe_at h (x := y.type) (by simp [typesOf])).symm
theorem rdo_any (s : ByteArray) (l : List Val) (A : Option Addr) (n c : Nat) (w : World) (hl : SeesVals w A n c l) (ho : isOpB s = true) (hn : (l.length : Int) = arityOf s)
    (hw : ∀ v ∈ l, v.wf) (hc : ∀ v ∈ l, vcheck v = 0) (hf : fitsGrp (grp s) (typesOf l) = true) :
    Calls Tryz.prog 16 #[.string s, .slice A n c] w (RDoSays (applyVal s l) (applyErr s l) w) := by
  have hln := hl.1
  rcases ops_cases ho with rfl | rfl | rfl | rfl | rfl | rfl | rfl | rfl | rfl | rfl | rfl | rfl | rfl | rfl | rfl | rfl | rfl
  · rw [show arityOf ⟨#[111, 114]⟩ = 2 by decide] at hn
    obtain rfl : n = 2 := by omega
    match l, hn with
    | [x, y], _ =>
      have h2 : allThe (typesOf [x, y]) 2 = true := hf
      exact rdo_or [x, y] x y A c w hl rfl rfl (bool_of (hc x (by simp)) (allThe_at h2 (by simp [typesOf]))) (bool_of (hc y (by simp)) (allThe_at h2 (by simp [typesOf])))
  · rw [show arityOf ⟨#[97, 110, 100]⟩ = 2 by decide] at hn
    obtain rfl : n = 2 := by omega
    match l, hn with
    | [x, y], _ =>
      have h2 : allThe (typesOf [x, y]) 2 = true := hf
      exact rdo_and [x, y] x y A c w hl rfl rfl (bool_of (hc x (by simp)) (allThe_at h2 (by simp [typesOf]))) (bool_of (hc y (by simp)) (allThe_at h2 (by simp [typesOf])))
  · rw [show arityOf ⟨#[110, 111, 116]⟩ = 1 by decide] at hn
    obtain rfl : n = 1 := by omega
    match l, hn with
    | [x], _ =>
      have h2 : allThe (typesOf [x]) 2 = true := hf
      exact rdo_not [x] x A c w hl rfl (bool_of (hc x (by simp)) (allThe_at h2 (by simp [typesOf])))
  · rw [show arityOf ⟨#[61]⟩ = 2 by decide] at hn
    obtain rfl : n = 2 := by omega
    match l, hn with
    | [x, y], _ => exact rdo_eq [x, y] x y A c w hl rfl rfl (hc x (by simp)) (hc y (by simp)) (same_type hf)
  · rw [show arityOf ⟨#[60, 62]⟩ = 2 by decide] at hn
    obtain rfl : n = 2 := by omega
    match l, hn with
    | [x, y], _ => exact rdo_ne [x, y] x y A c w hl rfl rfl (hc x (by simp)) (hc y (by simp)) (same_type hf)
  · rw [show arityOf ⟨#[60]⟩ = 2 by decide] at hn
    obtain rfl : n = 2 := by omega
    match l, hn with
    | [x, y], _ => exact rdo_lt [x, y] x y A c w hl rfl rfl (hc x (by simp)) (hc y (by simp)) (same_type hf)
  · rw [show arityOf ⟨#[60, 61]⟩ = 2 by decide] at hn
    obtain rfl : n = 2 := by omega
    match l, hn with
    | [x, y], _ => exact rdo_le [x, y] x y A c w hl rfl rfl (hc x (by simp)) (hc y (by simp)) (same_type hf)
  · rw [show arityOf ⟨#[62]⟩ = 2 by decide] at hn
    obtain rfl : n = 2 := by omega
    match l, hn with
    | [x, y], _ => exact rdo_gt [x, y] x y A c w hl rfl rfl (hc x (by simp)) (hc y (by simp)) (same_type hf)
  · rw [show arityOf ⟨#[62, 61]⟩ = 2 by decide] at hn
    obtain rfl : n = 2 := by omega
    match l, hn with
    | [x, y], _ => exact rdo_ge [x, y] x y A c w hl rfl rfl (hc x (by simp)) (hc y (by simp)) (same_type hf)
  · rw [show arityOf ⟨#[43]⟩ = 2 by decide] at hn
    obtain rfl : n = 2 := by omega
    match l, hn with
    | [x, y], _ => exact rdo_n43 [x, y] x y A c w hl rfl rfl (hw x (by simp)).2.1 (hw y (by simp)).2.1
  · rw [show arityOf ⟨#[45]⟩ = 2 by decide] at hn
    obtain rfl : n = 2 := by omega
    match l, hn with
    | [x, y], _ => exact rdo_n45 [x, y] x y A c w hl rfl rfl (hw x (by simp)).2.1 (hw y (by simp)).2.1
  · rw [show arityOf ⟨#[42]⟩ = 2 by decide] at hn
    obtain rfl : n = 2 := by omega
    match l, hn with
    | [x, y], _ => exact rdo_n42 [x, y] x y A c w hl rfl rfl (hw x (by simp)).2.1 (hw y (by simp)).2.1
  · rw [show arityOf ⟨#[47]⟩ = 2 by decide] at hn
    obtain rfl : n = 2 := by omega
    match l, hn with
    | [x, y], _ => exact rdo_n47 [x, y] x y A c w hl rfl rfl (hw x (by simp)).2.1 (hw y (by simp)).2.1
  · rw [show arityOf ⟨#[37]⟩ = 2 by decide] at hn
    obtain rfl : n = 2 := by omega
    match l, hn with
    | [x, y], _ => exact rdo_n37 [x, y] x y A c w hl rfl rfl (hw x (by simp)).2.1 (hw y (by simp)).2.1
  · rw [show arityOf ⟨#[110, 101, 103]⟩ = 1 by decide] at hn
    obtain rfl : n = 1 := by omega
    match l, hn with
    | [x], _ => exact rdo_neg [x] x A c w hl rfl (hw x (by simp)).2.1
  · rw [show arityOf ⟨#[108, 101, 110]⟩ = 1 by decide] at hn
    obtain rfl : n = 1 := by omega
    match l, hn with
    | [x], _ => exact rdo_len [x] x A c w hl rfl (hw x (by simp)).2.2
  · rw [show arityOf ⟨#[105, 102]⟩ = 3 by decide] at hn
    obtain rfl : n = 3 := by omega
    match l, hn with
    | [x, y, z], _ =>
      have hf' : ((x.type == 2) && (y.type == z.type)) = true := hf
      simp at hf'
      exact rdo_if [x, y, z] x y z A c w hl rfl rfl rfl (bool_of (hc x (by simp)) hf'.1)
end Go.Proofs.YthmbafkedgahaaaGreatDoor
namespace Go.Proofs.YthmbafkedgahaaaGreatDoor
open Go.ChangeShapes Go.WideShapes Go.ChangeAt Go.RowKit

set_option maxHeartbeats 2000000 in
set_option maxRecDepth 100000 in
theorem rrow_any (cols : List Col) (r : List Val) (C R : Option Addr) (p q m s : Nat) (w : World) (hC : SeesCols w C p q cols) (hs : ∀ x ∈ cols, x.name.size ≤ maxLen) (hR : SeesVals w R m s r) (hw : ∀ v ∈ r, v.s.size ≤ maxLen) :
    Calls Tryz.prog 8 #[.slice C p q, .slice R m s] w (ValSays (rowErr cols r) w) := by
  have HC := Lib.hid hC
  have HR := Lib.hid hR
  have HWF := Lib.hid hw
  have hq : p ≤ q := hC.2.2.1
  have hqm : q ≤ maxLen := hC.2.2.2.1
  have hm : m ≤ s := hR.2.2.1
  have hsm : s ≤ maxLen := hR.2.2.2.1
  have HP := Lib.hid hC.1
  have HM := Lib.hid hR.1
  unfold maxLen at hqm hsm
  have T := Lib.hid (rschemaR_any cols C p q w hC hs)
  have E := Lib.hid (show rowErr cols r = if schemaErr cols ≠ 0 then schemaErr cols else if r.length ≠ cols.length then 3 else firstErr (rowAt cols r) r.length from rfl)
  rw [HM.out, HP.out] at E
  generalize schemaErr cols = se at T E
  clear hC hs hR hw
  by_cases hse : se = 0
  · subst hse
    by_cases hl : m = p
    · subst hl
      have E2 := Lib.hid (show rowErr cols r = firstErr (rowAt cols r) m by rw [E.out, if_neg (by decide), if_neg (by simp)])
      have d0 : ((m : Int) != m) = false := by simp
      go_enter Tryz.func8, Tryz.ntmps8
      go_wp2_with fail
      refine (T.out).mono ?_
      rintro e' w1 ⟨rfl, rfl⟩
      go_wp2_with fail
      go_loopw [6] (fun i wr => ∃ k : Nat, k ≤ m ∧ i = .int .i64 k ∧ Below w.heap.size w wr ∧ firstErr (rowAt cols r) k = 0) (fun i _ => m - (intOf i).toNat)
      case atStart => exact ⟨0, by omega, rfl, Below.refl _ _, rfl⟩
      case round =>
        obtain ⟨k, hk, rfl, hb, hno⟩ := hrel
        have HN := Lib.hid hno
        have HBR := Lib.hid hb
        clear hno
        by_cases hlk : k < m
        · obtain ⟨g, o, x, rfl, hg, hx, c0, c1, c2⟩ := (HR.out.keep hb).at_ hlk
          obtain ⟨g2, o2, y, rfl, hg2, hy, y0, y1⟩ := (HC.out.keep hb).at_ hlk
          have HY := Lib.hid y1
          have HX0 := Lib.hid c0
          have HA := Lib.hid (rowAt_get hx hy)
          have TV := Lib.hid (rval_any x wr (HWF.out x (List.mem_of_getElem? hx)))
          clear hb hx hy y0 y1
          obtain ⟨vc, hvc⟩ : ∃ vc, vc = vcheck x := ⟨_, rfl⟩
          rw [← hvc] at TV HA
          clear hvc
          by_cases hv : vc = 0
          · subst hv
            by_cases ht : x.type = y.type
            · have HF := Lib.hid (firstErr_next HN.out (show rowAt cols r k = 0 by rw [HA.out, if_neg (by decide), if_neg (by simp [ht])]))
              have e1 : (x.type != y.type) = false := by simpa using ht
              clear ht
              go_wp2_with fail
              refine (TV.out).mono ?_
              rintro e' w2 ⟨rfl, hb2⟩
              have j0 : w2.cell? ⟨g, o + k * 3, none⟩ = some (.int .i64 x.type) := (hb2.cell (p := ⟨g, o + k * 3, none⟩) hg).trans HX0.out
              have j1 : w2.cell? ⟨g2, o2 + k * 2 + 1, none⟩ = some (.int .i64 y.type) := (hb2.cell (p := ⟨g2, o2 + k * 2 + 1, none⟩) hg2).trans HY.out
              have HB2 := Lib.hid (below_step HBR.out hb2)
              clear hb2 c0 c1 c2
              go_wp2_with fail
              go_quiet (fail)
              have HB3 := Lib.hid (below_drewN HB2.out nq)
              generalize w2.drewN nq = w3 at HB3 ⊢
              go_wp2_with fail
              go_roundw
              case rel => exact ⟨k + 1, by omega, by go_num, HB3.out, HF.out⟩
              case measure => simp [intOf]; omega
            · have HA2 := Lib.hid (show rowAt cols r k = 8 by rw [HA.out, if_neg (by decide), if_pos ht])
              have HF := Lib.hid (firstErr_hit HN.out (show rowAt cols r k ≠ 0 by rw [HA2.out]; decide) m hlk)
              have e1 : (x.type != y.type) = true := by simpa using ht
              clear ht
              go_wp2_with fail
              refine (TV.out).mono ?_
              rintro e' w2 ⟨rfl, hb2⟩
              have j0 : w2.cell? ⟨g, o + k * 3, none⟩ = some (.int .i64 x.type) := (hb2.cell (p := ⟨g, o + k * 3, none⟩) hg).trans HX0.out
              have j1 : w2.cell? ⟨g2, o2 + k * 2 + 1, none⟩ = some (.int .i64 y.type) := (hb2.cell (p := ⟨g2, o2 + k * 2 + 1, none⟩) hg2).trans HY.out
              have HB2 := Lib.hid (below_step HBR.out hb2)
              clear hb2 c0 c1 c2
              go_wp2_with fail
              go_quiet (fail)
              have HB3 := Lib.hid (below_drewN HB2.out nq)
              generalize w2.drewN nq = w3 at HB3 ⊢
              go_wp2_with fail
              go_ret
              exact ⟨by rw [E2.out, HF.out, HA2.out]; rfl, HB3.out⟩
          · have HA2 := Lib.hid (show rowAt cols r k = vc by rw [HA.out, if_pos hv])
            have HF := Lib.hid (firstErr_hit HN.out (show rowAt cols r k ≠ 0 by rw [HA2.out]; exact hv) m hlk)
            have e1 : (vc != 0) = true := by simpa using hv
            clear hv
            go_wp2_with fail
            refine (TV.out).mono ?_
            rintro e' w2 ⟨rfl, hb2⟩
            have HB2 := Lib.hid (below_step HBR.out hb2)
            clear hb2
            go_wp2_with fail
            go_ret
            exact ⟨by rw [E2.out, HF.out, HA2.out]; rfl, HB2.out⟩
        · obtain rfl : k = m := by omega
          go_wp2_with fail
          go_ret
          exact ⟨by rw [E2.out, HN.out]; rfl, HBR.out⟩
    · have E2 := Lib.hid (show rowErr cols r = 3 by rw [E.out, if_neg (by decide), if_pos hl])
      have d0 : ((m : Int) != p) = true := by simp; omega
      clear hl
      go_enter Tryz.func8, Tryz.ntmps8
      go_wp2_with fail
      refine (T.out).mono ?_
      rintro e' w1 ⟨rfl, rfl⟩
      go_wp2_with fail
      go_ret
      exact ⟨by rw [E2.out]; rfl, Below.refl _ _⟩
  · have E2 := Lib.hid (show rowErr cols r = se by rw [E.out, if_pos hse])
    have e1 : (se != 0) = true := by simpa using hse
    clear hse
    go_enter Tryz.func8, Tryz.ntmps8
    go_wp2_with fail
    refine (T.out).mono ?_
    rintro e' w1 ⟨rfl, rfl⟩
    go_wp2_with fail
    go_ret
    exact ⟨by rw [E2.out]; rfl, Below.refl _ _⟩
end Go.Proofs.YthmbafkedgahaaaGreatDoor
namespace Go.Proofs.YthmbafkedgahaaaGreatDoor
open Go.ChangeShapes Go.WideShapes Go.ChangeAt Go.RowKit

theorem intCell_get {xs : List Int} {k : Nat} {u : Value} (h : (intCells xs)[k]? = some u) : ∃ x, xs[k]? = some x ∧ u = .int .i64 x := by
  unfold intCells at h
  rw [List.getElem?_map] at h
  cases hx : xs[k]? with
  | none => rw [hx] at h; cases h
  | some x => rw [hx] at h; exact ⟨x, rfl, by simpa using h.symm⟩

theorem take_eq_of {xs ys : List Int} {k : Nat} {x : Int} (h : xs.take k = ys.take k) (hx : xs[k]? = some x) (hy : ys[k]? = some x) : xs.take (k + 1) = ys.take (k + 1) := by
  rw [List.take_add_one, List.take_add_one, h, hx, hy]

set_option maxHeartbeats 400000 in
theorem same_ints (A B : Option Addr) (n m c d : Nat) (xs ys : List Int) (w : World) (ha : Sees w A n c 1 (intCells xs)) (hb : Sees w B m d 1 (intCells ys)) :
    Calls Tryz.prog 13 #[.slice A n c, .slice B m d] w fun e w' => e = .returned (.bool (decide (xs = ys))) ∧ ∃ q, w' = w.drewN q := by
  have la : xs.length = n := by have := ha.1; simpa [intCells] using this
  have lb : ys.length = m := by have := hb.1; simpa [intCells] using this
  have hc := ha.2.1
  have hc2 := ha.2.2.1
  have hd := hb.2.1
  have hd2 := hb.2.2.1
  unfold maxLen at hc2 hd2
  by_cases hnm : n = m
  · subst hnm
    have HA := Lib.hid ha
    have HB := Lib.hid hb
    have HL := Lib.hid la
    have HM := Lib.hid lb
    clear ha hb la lb
    go_enter Tryz.func13, Tryz.ntmps13
    go_wp2
    go_loopw [5] (fun i wr => ∃ k q : Nat, k ≤ n ∧ i = .int .i64 k ∧ wr = w.drewN q ∧ xs.take k = ys.take k) (fun i _ => n - (intOf i).toNat)
    case atStart => exact ⟨0, 0, by omega, rfl, rfl, by simp⟩
    case round =>
      obtain ⟨k, q, hk, rfl, rfl, htk⟩ := hrel
      have HT := Lib.hid htk
      clear htk
      by_cases hlt : k < n
      · obtain ⟨g, o, u, rfl, hu, cu⟩ := HA.out.at_ hlt
        obtain ⟨g2, o2, u2, rfl, hu2, cu2⟩ := HB.out.at_ hlt
        obtain ⟨x, hx, rfl⟩ := intCell_get hu
        obtain ⟨y, hy, rfl⟩ := intCell_get hu2
        have X := Lib.hid hx
        have Y := Lib.hid hy
        clear hu hu2 hx hy
        by_cases hxy : x = y
        · have e1 : (x != y) = false := by simp [hxy]
          have E := Lib.hid hxy
          clear hxy
          go_wp2
          go_quiet (fail)
          go_wp2
          go_roundw
          case rel => exact ⟨k + 1, q + nq, by omega, by go_num, by simp, take_eq_of HT.out X.out (by rw [E.out]; exact Y.out)⟩
          case measure => simp [intOf]; omega
        · have e1 : (x != y) = true := by simp [hxy]
          have E := Lib.hid hxy
          clear hxy
          go_wp2
          go_quiet (fail)
          go_wp2
          go_ret
          refine ⟨?_, q + nq, by simp⟩
          have : ¬ xs = ys := fun e => E.out (by have h1 := X.out; rw [e, Y.out] at h1; injection h1 with h1; exact h1.symm)
          simp [this]
      · obtain rfl : n = k := by omega
        have e : xs = ys := by have := HT.out; rwa [List.take_of_length_le (by rw [HL.out]; exact Nat.le_refl _), List.take_of_length_le (by rw [HM.out]; exact Nat.le_refl _)] at this
        have E := Lib.hid e
        clear e
        go_wp2
        go_ret
        exact ⟨by simp [E.out], q, rfl⟩
  · have hne : ¬ xs = ys := fun e => hnm (by rw [← la, ← lb, e])
    have hE := Lib.hid hne
    clear hne la lb ha hb
    go_enter Tryz.func13, Tryz.ntmps13
    go_wp2
    go_ret
    exact ⟨by simp [hE.out], 0, rfl⟩
end Go.Proofs.YthmbafkedgahaaaGreatDoor
