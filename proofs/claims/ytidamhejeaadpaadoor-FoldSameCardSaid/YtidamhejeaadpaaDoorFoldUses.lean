/- fold.Uses, walked: which columns an expression has. -/
import Derived.Test.YtidamhejeaadpaaDoorFoldNames
import Derived.Test.YtidamhejeaadpaaDoorIter
import Derived.Test.YtidamhejeaadpaaDoorKindOf
import Derived.Maps.OwnSet
import Derived.Sort.KeysCollected
namespace Go.Proofs.YtidamhejeaadpaaDoor
open Go.ChangeShapes Go.WideShapes Go.ChangeAt Go.RowKit Go.Maps Go.Sort

mutual
theorem names_le : ∀ e : Ex, (exNames e).length ≤ exN e
  | .mk op name v A c args pos => by
    rw [exNames, exN, List.length_append]
    have := namess_le args
    split
    · simp; omega
    · simp; omega
theorem namess_le : ∀ l : List Ex, (exNamess l).length ≤ exNs l
  | [] => by rw [exNamess]; exact Nat.zero_le _
  | a :: l => by
    rw [exNamess, exNs, List.length_append]
    have := names_le a
    have := namess_le l
    omega
end
theorem keyLit (s : ByteArray) : WideAt.IsKeyLit (litOf s) := by unfold litOf; exact trivial
/-- Which keys a map of names has. -/
theorem mem_keys {w : World} {B n : Nat} {l : List ByteArray} (h : NamesIn w B n (l.map litOf)) (x : List UInt8) : x ∈ strKeys (setOf yesD (l.map litOf)) ↔ mkB x ∈ l := by
  obtain ⟨es, hD, hko⟩ := World.ownsMap.keysOf h
  have hh : has (setOf yesD (l.map litOf)) (.string x) = (l.map litOf).any (fun y => y.sameKey (.string x)) := has_setOf _ _ _ (fun y hy => by
    obtain ⟨s, _, rfl⟩ := List.mem_map.1 hy
    exact keyLit s)
  have h1 : x ∈ strKeys (setOf yesD (l.map litOf)) ↔ has (setOf yesD (l.map litOf)) (.string x) = true := by
    rw [hD, has_eq, List.any_eq_true]
    show x ∈ es.map (fun p => strOf p.1) ↔ _
    rw [List.mem_map]
    constructor
    · rintro ⟨p, hp, rfl⟩
      obtain ⟨v, hv⟩ := hko p hp
      obtain ⟨a, _, ha, _⟩ := Maps.keyOf_str Tryd.underlying9 hv
      exact ⟨p, hp, by rw [ha]; simp [Lit.sameKey, strOf]⟩
    · rintro ⟨p, hp, hs⟩
      obtain ⟨v, hv⟩ := hko p hp
      obtain ⟨a, _, ha, _⟩ := Maps.keyOf_str Tryd.underlying9 hv
      rw [ha] at hs
      exact ⟨p, hp, by rw [ha]; simpa [Lit.sameKey, strOf] using hs⟩
  rw [h1, hh, List.any_eq_true]
  constructor
  · rintro ⟨y, hy, hs⟩
    obtain ⟨s, h2, rfl⟩ := List.mem_map.1 hy
    have : s.data.toList = x := by simpa [litOf, Lit.sameKey] using hs
    rw [← this, mkB_data]; exact h2
  · intro hx
    exact ⟨litOf (mkB x), List.mem_map.2 ⟨_, hx, rfl⟩, by simp [litOf, Lit.sameKey, data_mkB]⟩
theorem keys_plain (mb : Option Nat) (W : World) : Calls Tryd.prog 47 #[.map mb] W fun e w' => e = .returned (.func (.func 76) #[] #[.pointer (some ⟨W.heap.size, 0, none⟩)]) ∧ w' = W.alloc (.cells #[.map mb] 94) :=
  callsIn_wide.1 (Tryd.maps_Keys_47 mb W)
/-- The names, sorted. -/
def sortedOf (ss : List (List UInt8)) : List ByteArray := (ss.mergeSort (fun x y => decide (x ≤ y))).map mkB
theorem sorted_plain {l : List ByteArray} (b nn : Nat) (w : World) (hown : NamesIn w b nn (l.map litOf)) (hl : nn ≤ 1000000) :
    Calls Tryd.prog 46 #[.func (.func 76) #[] #[.pointer (some ⟨w.heap.size, 0, none⟩)]] (w.alloc (.cells #[.map (some b)] 94)) fun e w' => ∃ A n c ss, e = .returned (.slice A n c) ∧ ss.Perm (strKeys (setOf yesD (l.map litOf))) ∧ Sees w' A n c 1 (strCells (sortedOf ss)) ∧ Below w.heap.size w w' := by
  have hs : Maps.size (setOf yesD (l.map litOf)) ≤ nn := World.ownsMap.size_le hown
  refine (callsIn_wide.1 (Tryd.slices_Sorted_keys_46_47 b nn _ _ w hown (by unfold maxLen; omega) (by omega))).mono ?_
  rintro e w' ⟨v, ss, rfl, hp, hrow, _, hb⟩
  obtain ⟨A, c, rfl, hse⟩ := Sees.of_own hrow
  refine ⟨A, _, c, ss, rfl, hp, ?_, (belowNew' w (.cells #[.map (some b)] 94)).trans (hb.mono (by simp))⟩
  have e : (ss.mergeSort (fun x y => decide (x ≤ y))).map encStr = strCells (sortedOf ss) := by
    unfold strCells sortedOf
    rw [List.map_map]; rfl
  rw [← e]
  exact hse
def UsesSays (e : Ex) (w : World) (r : Ending) (w' : World) : Prop :=
  (checkErr e ≠ 0 ∧ r = .returned (.tuple #[.slice none 0 0, errV (checkErr e)]) ∧ Below w.heap.size w w') ∨
  (checkErr e = 0 ∧ ∃ A n c ss, r = .returned (.tuple #[.slice A n c, .nilIface]) ∧ Sees w' A n c 1 (strCells (sortedOf ss)) ∧ (∀ x, x ∈ ss ↔ mkB x ∈ exNames e) ∧ Below w.heap.size w w')
set_option maxHeartbeats 4000000 in
set_option maxRecDepth 100000 in
theorem uses_any (e : Ex) (w : World) (hT : LevelsT w) (hW : WordsT w) (he : SeesEx w e) : Calls Tryd.prog 18 #[exV e] w (UsesSays e w) := by
  obtain ⟨w1, hw1, ho, hb1, -⟩ := box_ex w e
  have TC := Lib.hid (check_any e w1 (hT.keep hb1) (hW.keep hb1) (he.keep hb1))
  unfold NodeSays exV at TC
  have HB1 := Lib.hid hb1
  have HO1 := Lib.hid ho
  have HE := Lib.hid he
  have HW1 := Lib.hid hw1
  obtain ⟨d0, d1, d2, d3, d4, d5, d6⟩ := ho.cells
  have hl1 := ho.lt
  have hmm := @run_makeMap Tryd.prog
  unfold exV
  clear hT hW he hw1 hb1 ho
  by_cases hk : checkErr e = 0
  · have HK := Lib.hid hk
    have hle : (exNames e).length ≤ 200 := by
      obtain ⟨h1, h2, h3⟩ := checkErr_ok hk
      have := (size_ok 30 (Nat.le_refl _) _ h2 h3).1
      have := names_le e
      omega
    rw [hk, errV_zero] at TC
    clear hk
    go_enter Tryd.func18, Tryd.ntmps18
    go_wp2_with (first | rw [HW1.out])
    refine (TC.out).mono ?_
    rintro e' w2 ⟨rfl, hb2⟩
    have HB2 := Lib.hid (HB1.out.trans (hb2.mono HB1.out.size))
    obtain ⟨w3, hw3⟩ : ∃ w3, w2.alloc (.map #[] 0) = w3 := ⟨_, rfl⟩
    have hb3 := belowNew' w2 (.map #[] 0)
    have hn3 : NamesIn (w2.alloc (.map #[] 0)) w2.heap.size 0 ([].map litOf) := World.ownsMap_made w2 _ _ _
    rw [hw3] at hb3 hn3
    have HB3 := Lib.hid (HB2.out.trans (hb3.mono HB2.out.size))
    obtain ⟨d0, d1, d2, d3, d4, d5, d6⟩ := (HO1.out.keep (hb2.trans (hb3.mono hb2.size))).cells
    have TN := Lib.hid (names_any _ e (Nat.le_refl _) w w3 w2.heap.size 0 _ HE.out HB2.out.size HB3.out hn3 (by omega))
    unfold NamesSays exV at TN
    have HW3 := Lib.hid hw3
    have HSZ := Lib.hid HB2.out.size
    clear hw3 hb2 hb3 hn3 TC
    go_wp2_with (first | rw [HW3.out])
    refine (TN.out).mono ?_
    rintro e' w4 ⟨rfl, hown4, honl4⟩
    rw [List.map_nil, List.nil_append] at hown4
    have HB4 := Lib.hid (HB3.out.trans (honl4.below HB3.out.size (fun k e => e ▸ HSZ.out)))
    have TS := Lib.hid (sorted_plain w2.heap.size _ w4 hown4 (by omega))
    have HM := Lib.hid (fun x => mem_keys hown4 x)
    clear hown4 honl4 TN d0 d1 d2 d3 d4 d5 d6 hmm
    go_wp2_with fail
    refine (keys_plain _ _).mono ?_
    rintro e' w5 ⟨rfl, rfl⟩
    go_wp2_with fail
    refine (TS.out).mono ?_
    rintro e' w6 ⟨A, n, c, ss, rfl, hp, hse, hb6⟩
    have HB6 := Lib.hid (HB4.out.trans (hb6.mono HB4.out.size))
    have HSE := Lib.hid hse
    have HP := Lib.hid (fun x => (hp.mem_iff (a := x)).trans (HM.out x))
    clear hb6 hse hp TS
    go_wp2_with fail
    go_ret2
    exact Or.inr ⟨HK.out, A, n, c, ss, rfl, HSE.out, HP.out, HB6.out⟩
  · have HR := Lib.hid (fun (w' : World) (hb : Below w.heap.size w w') => show UsesSays e w (.returned (.tuple #[.slice none 0 0, .iface 76 (.int .i64 (checkErr e))])) w' from Or.inl ⟨hk, by rw [errV_ne hk], hb⟩)
    rw [errV_ne hk] at TC
    clear hk hmm
    go_enter Tryd.func18, Tryd.ntmps18
    go_wp2_with (first | rw [HW1.out])
    refine (TC.out).mono ?_
    rintro e' w2 ⟨rfl, hb2⟩
    have HB2 := Lib.hid (HB1.out.trans (hb2.mono HB1.out.size))
    clear hb2
    go_wp2_with fail
    go_ret2
    exact HR.out _ HB2.out
end Go.Proofs.YtidamhejeaadpaaDoor
