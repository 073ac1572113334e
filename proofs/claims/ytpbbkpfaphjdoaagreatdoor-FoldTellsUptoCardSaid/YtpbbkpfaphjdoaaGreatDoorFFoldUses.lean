/- fold.names, walked: names of columns put into a map. fold.Uses, walked: which columns an expression has. Of the law FoldTells, in plain words: two rows of texts in rising order, each text once, that have the same texts are the same row; a text put where it belongs. -/
import Derived.Test.YtpbbkpfaphjdoaaGreatDoorFFoldConst
import Derived.Test.YtpbbkpfaphjdoaaGreatDoorFOnly
import Derived.Maps.Own
import Derived.Maps.Views
import Derived.StringKeys
import Derived.Test.YtpbbkpfaphjdoaaGreatDoorFIter
import Derived.Test.YtpbbkpfaphjdoaaGreatDoorFKindOf
import Derived.Maps.OwnSet
import Derived.Sort.KeysCollected
namespace Go.Proofs.YtpbbkpfaphjdoaaGreatDoor
open Go.ChangeShapes Go.WideShapes Go.ChangeAt Go.RowKit Go.Maps
def litOf (s : ByteArray) : Lit := .string s.data.toList
def yesD : DataW Unit := .lit (.bool true)
theorem keyLaw : Keyed Tryz.prog 9 := string_keyed Tryz.underlying9
def NamesIn (w : World) (B n : Nat) (acc : List Lit) : Prop := w.ownsMap Tryz.prog 9 (plainElem Tryz.prog 4) B n (setOf yesD acc)
theorem NamesIn.same {w w' : World} {B n : Nat} {acc : List Lit} (h : NamesIn w B n acc) (hb : w'.heap[B]? = w.heap[B]?) : NamesIn w' B n acc := by
 obtain ⟨es, clock, h1, h2⟩ := h
 exact ⟨es, clock, hb.trans h1, h2⟩
theorem NamesIn.lt {w : World} {B n : Nat} {acc : List Lit} (h : NamesIn w B n acc) : B < w.heap.size := by
 obtain ⟨es, clock, h1, h2⟩ := h
 exact (Array.getElem?_eq_some_iff.1 h1).1
def NamesSays (e : Ex) (B n : Nat) (acc : List Lit) (w : World) (r : Ending) (w' : World) : Prop := r = .returned (.tuple #[]) ∧ NamesIn w' B (n + (exNames e).length) (acc ++ (exNames e).map litOf) ∧ Only (fun k => k = B) w w'
def NamesAt (m : Nat) : Prop := ∀ e : Ex, SizeOf.sizeOf e ≤ m → ∀ (w0 w : World) (B n : Nat) (acc : List Lit), SeesEx w0 e → w0.heap.size ≤ B → Below w0.heap.size w0 w → NamesIn w B n acc → n + (exNames e).length ≤ 1000000 → Calls Tryz.prog 78 #[exV e, .map (some B)] w (NamesSays e B n acc w)
theorem exNamess_app (l m : List Ex) : exNamess (l ++ m) = exNamess l ++ exNamess m := by
 induction l with
 | nil => rw [exNamess]; rfl
 | cons a l ih => rw [List.cons_append, exNamess, exNamess, ih, List.append_assoc]
theorem exNamess_next {l : List Ex} {k : Nat} {a : Ex} (h : l[k]? = some a) : exNamess (l.take (k + 1)) = exNamess (l.take k) ++ exNames a := by
 rw [List.take_add_one, h, exNamess_app]
 show _ ++ exNamess [a] = _
 rw [exNamess, exNamess, List.append_nil]
theorem exNamess_take_le (l : List Ex) (k : Nat) : (exNamess (l.take k)).length ≤ (exNamess l).length := by
 conv => rhs; rw [← List.take_append_drop k l, exNamess_app, List.length_append]
 omega
set_option maxHeartbeats 4000000 in
set_option maxRecDepth 100000 in
theorem names_step (m : Nat) (ih : NamesAt m) (op name : ByteArray) (v : Val) (A : Option Addr) (c : Nat) (args : List Ex) (pos : Int) (hm : SizeOf.sizeOf (Ex.mk op name v A c args pos) ≤ m + 1)
  (w0 w : World) (B n : Nat) (acc : List Lit) (he : SeesEx w0 (.mk op name v A c args pos)) (hB : w0.heap.size ≤ B) (hb : Below w0.heap.size w0 w) (hown : NamesIn w B n acc) (hn : n + (exNames (.mk op name v A c args pos)).length ≤ 1000000) :
  Calls Tryz.prog 78 #[exV (.mk op name v A c args pos), .map (some B)] w (NamesSays (.mk op name v A c args pos) B n acc w) := by
 have IH := Lib.hid ih
 have HM := Lib.hid (fun a (ha : a ∈ args) => show SizeOf.sizeOf a ≤ m by have := ex_lt (e := .mk op name v A c args pos) ha; omega)
 have HE := Lib.hid he
 have HBB := Lib.hid hB
 have HB := Lib.hid hb
 have HNM := Lib.hid (show exNames (.mk op name v A c args pos) = (if isCol op then [name] else []) ++ exNamess args by rw [exNames])
 have HN := Lib.hid hn
 obtain ⟨w1, hw1, ho, hb1, -⟩ := box_ex w (.mk op name v A c args pos)
 have HO1 := Lib.hid (hown.same (w' := w1) (hb1.block B hown.lt))
 have HB1 := Lib.hid (hb.trans (hb1.mono hb.size))
 have HOn := Lib.hid (Only.of_below (S := fun k => k = B) hb1)
 have hcap : args.length ≤ c := he.parts.1.2.1
 have hmax : c ≤ maxLen := he.parts.1.2.2.1
 have hns : name.size ≤ maxLen := he.parts.2.2.1
 unfold maxLen at hmax
 obtain ⟨n', hn'⟩ : ∃ n', args.length = n' := ⟨_, rfl⟩
 have HLn := Lib.hid hn'
 obtain ⟨x0, x1, -, -, -, x5, -⟩ := ho.cells
 replace x0 : w1.cell? ⟨w.heap.size, 0, none⟩ = some (.string op) := x0
 replace x1 : w1.cell? ⟨w.heap.size, 1, none⟩ = some (.string name) := x1
 replace x5 : w1.cell? ⟨w.heap.size, 5, none⟩ = some (.slice A args.length c) := x5
 have hl1 := ho.lt
 have HW1 : Hid (w.alloc (.cells #[.string op, .string name, .int .i64 v.type, .int .i64 v.n, .string v.s, .slice A args.length c, .int .i64 pos] 26) = w1) := Lib.hid hw1
 have HKEY := Lib.hid (show keyOf Tryz.prog 9 (.string name) = some (litOf name) from Go.WideMaps.keyOf_string_mk Tryz.underlying9 hns)
 have HNE := Lib.hid (show B ≠ w.heap.size from Nat.ne_of_lt hown.lt)
 show Calls Tryz.prog 78 #[.agg #[.string op, .string name, .int .i64 v.type, .int .i64 v.n, .string v.s, .slice A args.length c, .int .i64 pos], .map (some B)] w _
 rw [hn'] at x5 hcap HW1 ⊢
 have HX5 := Lib.hid x5
 clear ih hm he hB hb hown hn ho hb1 hw1 hn' hns
 by_cases hc : isCol op
 ·have e1 := str_is (show op.data.toList = [99, 111, 108] from hc)
  rw [if_pos hc] at HNM
  clear hc
  have hl : n + 1 ≤ 1000000 := by have := HN.out; rw [HNM.out] at this; simp at this; omega
  go_enter Tryz.func78, Tryz.ntmps78
  go_wp2_with (first
   | rw [HW1.out]
   | (at_mapUpdate; refine wpList_mapUpdate_own _ rfl _ _ _ 129 rfl 9 4 keyLaw Tryz.underlying129 _ B n _ rfl HO1.out (by unfold maxLen; omega) _ _ _ rfl rfl HKEY.out _ [] (plainElem_bool Tryz.underlying4 true) ?_; intro w2 hown2 hgrow2; have HO2 := Lib.hid hown2; have HG2 := Lib.hid hgrow2; have x5 := (World.cell?_of_block (w := w1) (w' := w2) (a := ⟨w.heap.size, 5, none⟩) (hgrow2.block w.heap.size hl1 (fun e => HNE.out (Option.some.inj e).symm))).trans HX5.out; clear hown2 hgrow2))
  have HO3 := Lib.hid (show NamesIn w2 B (n + 1) (acc ++ [litOf name]) from by unfold NamesIn; rw [setOf_snoc]; exact HO2.out)
  have HOW := Lib.hid (show Only (fun k => k = B) w w2 from HOn.out.trans (Only.of_grown HG2.out (fun k e => Option.some.inj e)))
  have HBW := Lib.hid (show Below w0.heap.size w0 w2 from HB1.out.trans ((Only.of_grown (S := fun k => k = B) HG2.out (fun k e => Option.some.inj e)).below HB1.out.size (fun k e => e ▸ HBB.out)))
  clear HO1 x0 x1 x5
  go_loopw [15] (fun i wr => ∃ k : Nat, k ≤ n' ∧ i = .int .i64 k ∧ NamesIn wr B (n + 1 + (exNamess (args.take k)).length) ((acc ++ [litOf name]) ++ (exNamess (args.take k)).map litOf) ∧ Only (fun k => k = B) w2 wr) (fun i _ => n' - (intOf i).toNat)
  case atStart => exact ⟨0, by omega, rfl, by rw [List.take_zero, exNamess, List.map_nil, List.append_nil]; exact HO3.out, .of_below (Below.refl _ _)⟩
  case round =>
   obtain ⟨k, hk, rfl, hown, honl⟩ := hrel
   have HON := Lib.hid hown
   have HOL := Lib.hid honl
   have HBK := Lib.hid (show Below w0.heap.size w0 wr from HBW.out.trans (honl.below HBW.out.size (fun k e => e ▸ HBB.out)))
   clear hown honl
   by_cases hlk : k < n'
   ·obtain ⟨g, o, x, (rfl : A = _), hg, hx, hsx, c0, c1, c2, c3, c4, c5, c6⟩ := (HE.out.keep HBK.out).at_ (k := k) (by show k < args.length; rw [HLn.out]; exact hlk)
    have HX := Lib.hid (show args[k]? = some x from hx)
    obtain ⟨w3, hw3, ho3, hb3, -⟩ := box_ex wr x
    obtain ⟨y0, y1, y2, y3, y4, y5, y6⟩ := ho3.cells
    have HO4 := Lib.hid (HON.out.same (w' := w3) (hb3.block B HON.out.lt))
    have HB3 := Lib.hid (HBK.out.trans (hb3.mono HBK.out.size))
    have HOL3 := Lib.hid (HOL.out.trans (.of_below (S := fun k => k = B) hb3))
    have HXN := Lib.hid (exNamess_next HX.out)
    have HEX := Lib.hid (show SeesEx w0 x from HE.out.parts.2.2.2.2.2 x (List.mem_of_getElem? HX.out))
    have hle : n + 1 + (exNamess (args.take k)).length + (exNames x).length ≤ 1000000 := by
     have h1 := exNamess_take_le args (k + 1)
     rw [HXN.out, List.length_append] at h1
     have h2 := HN.out
     rw [HNM.out, List.length_append] at h2
     simp at h2
     omega
    have T := Lib.hid (IH.out x (HM.out x (List.mem_of_getElem? HX.out)) w0 w3 B _ _ HEX.out HBB.out HB3.out HO4.out hle)
    unfold NamesSays exV at T
    have HW3 := Lib.hid hw3
    clear hx hsx ho3 hb3 hw3 hle
    go_wp2_with (first | rw [HW3.out])
    refine (T.out).mono ?_
    rintro e' w4 ⟨rfl, hown4, honl4⟩
    have HO5 := Lib.hid (show NamesIn w4 B (n + 1 + (exNamess (args.take (k + 1))).length) ((acc ++ [litOf name]) ++ (exNamess (args.take (k + 1))).map litOf) from by
     rw [HXN.out, List.length_append, List.map_append, ← List.append_assoc, ← Nat.add_assoc]
     exact hown4)
    have HOL5 := Lib.hid (HOL3.out.trans honl4)
    clear hown4 honl4 T
    go_wp2_with fail
    go_roundw
    case rel => exact ⟨k + 1, by omega, by go_num, HO5.out, HOL5.out⟩
    case measure => simp [intOf]; omega
   ·obtain rfl : n' = k := by omega
    have HTK := Lib.hid (show args.take n' = args from List.take_of_length_le (by rw [HLn.out]; exact Nat.le_refl _))
    rw [HTK.out] at HON
    go_wp2_with fail
    go_end0
    refine ⟨rfl, ?_, HOW.out.trans HOL.out⟩
    rw [HNM.out, List.map_append, ← List.append_assoc, List.length_append, ← Nat.add_assoc]
    exact HON.out
 ·have e1 := str_ne (show op.data.toList ≠ [99, 111, 108] from hc)
  rw [if_neg hc] at HNM
  clear hc
  go_enter Tryz.func78, Tryz.ntmps78
  go_wp2_with (first | rw [HW1.out])
  have HO3 := Lib.hid (show NamesIn w1 B (n + 0) (acc ++ ([] : List Lit)) from by rw [List.append_nil]; exact HO1.out)
  have HOW := Lib.hid (show Only (fun k => k = B) w w1 from HOn.out)
  have HBW := Lib.hid (show Below w0.heap.size w0 w1 from HB1.out.trans ((Only.of_below (S := fun k => k = B) (Below.refl w1.heap.size w1)).below HB1.out.size (fun k e => e ▸ HBB.out)))
  clear HO1 x0 x1 x5
  go_loopw [15] (fun i wr => ∃ k : Nat, k ≤ n' ∧ i = .int .i64 k ∧ NamesIn wr B (n + 0 + (exNamess (args.take k)).length) ((acc ++ ([] : List Lit)) ++ (exNamess (args.take k)).map litOf) ∧ Only (fun k => k = B) w1 wr) (fun i _ => n' - (intOf i).toNat)
  case atStart => exact ⟨0, by omega, rfl, by rw [List.take_zero, exNamess, List.map_nil, List.append_nil]; exact HO3.out, .of_below (Below.refl _ _)⟩
  case round =>
   obtain ⟨k, hk, rfl, hown, honl⟩ := hrel
   have HON := Lib.hid hown
   have HOL := Lib.hid honl
   have HBK := Lib.hid (show Below w0.heap.size w0 wr from HBW.out.trans (honl.below HBW.out.size (fun k e => e ▸ HBB.out)))
   clear hown honl
   by_cases hlk : k < n'
   ·obtain ⟨g, o, x, (rfl : A = _), hg, hx, hsx, c0, c1, c2, c3, c4, c5, c6⟩ := (HE.out.keep HBK.out).at_ (k := k) (by show k < args.length; rw [HLn.out]; exact hlk)
    have HX := Lib.hid (show args[k]? = some x from hx)
    obtain ⟨w3, hw3, ho3, hb3, -⟩ := box_ex wr x
    obtain ⟨y0, y1, y2, y3, y4, y5, y6⟩ := ho3.cells
    have HO4 := Lib.hid (HON.out.same (w' := w3) (hb3.block B HON.out.lt))
    have HB3 := Lib.hid (HBK.out.trans (hb3.mono HBK.out.size))
    have HOL3 := Lib.hid (HOL.out.trans (.of_below (S := fun k => k = B) hb3))
    have HXN := Lib.hid (exNamess_next HX.out)
    have HEX := Lib.hid (show SeesEx w0 x from HE.out.parts.2.2.2.2.2 x (List.mem_of_getElem? HX.out))
    have hle : n + 0 + (exNamess (args.take k)).length + (exNames x).length ≤ 1000000 := by
     have h1 := exNamess_take_le args (k + 1)
     rw [HXN.out, List.length_append] at h1
     have h2 := HN.out
     rw [HNM.out, List.length_append] at h2
     simp at h2
     omega
    have T := Lib.hid (IH.out x (HM.out x (List.mem_of_getElem? HX.out)) w0 w3 B _ _ HEX.out HBB.out HB3.out HO4.out hle)
    unfold NamesSays exV at T
    have HW3 := Lib.hid hw3
    clear hx hsx ho3 hb3 hw3 hle
    go_wp2_with (first | rw [HW3.out])
    refine (T.out).mono ?_
    rintro e' w4 ⟨rfl, hown4, honl4⟩
    have HO5 := Lib.hid (show NamesIn w4 B (n + 0 + (exNamess (args.take (k + 1))).length) ((acc ++ ([] : List Lit)) ++ (exNamess (args.take (k + 1))).map litOf) from by
     rw [HXN.out, List.length_append, List.map_append, ← List.append_assoc, ← Nat.add_assoc]
     exact hown4)
    have HOL5 := Lib.hid (HOL3.out.trans honl4)
    clear hown4 honl4 T
    go_wp2_with fail
    go_roundw
    case rel => exact ⟨k + 1, by omega, by go_num, HO5.out, HOL5.out⟩
    case measure => simp [intOf]; omega
   ·obtain rfl : n' = k := by omega
    have HTK := Lib.hid (show args.take n' = args from List.take_of_length_le (by rw [HLn.out]; exact Nat.le_refl _))
    rw [HTK.out] at HON
    go_wp2_with fail
    go_end0
    refine ⟨rfl, ?_, HOW.out.trans HOL.out⟩
    rw [HNM.out, List.map_append, ← List.append_assoc, List.length_append, ← Nat.add_assoc]
    exact HON.out
theorem names_any : ∀ m : Nat, NamesAt m
 | 0 => fun e hm _ _ _ _ _ _ _ _ _ _ => by cases e; simp at hm
 | m + 1 => fun e hm w0 w B n acc he hB hb hown hn => by
  obtain ⟨op, name, v, A, c, args, pos⟩ := e
  exact names_step m (names_any m) op name v A c args pos hm w0 w B n acc he hB hb hown hn
end Go.Proofs.YtpbbkpfaphjdoaaGreatDoor
namespace Go.Proofs.YtpbbkpfaphjdoaaGreatDoor
open Go.ChangeShapes Go.WideShapes Go.ChangeAt Go.RowKit Go.Maps Go.Sort
mutual
theorem names_le : ∀ e : Ex, (exNames e).length ≤ exN e
 | .mk op name v A c args pos => by
  rw [exNames, exN, List.length_append]
  have := namess_le args
  split
  ·simp; omega
  ·simp; omega
theorem namess_le : ∀ l : List Ex, (exNamess l).length ≤ exNs l
 | [] => by rw [exNamess]; exact Nat.zero_le _
 | a :: l => by
  rw [exNamess, exNs, List.length_append]
  have := names_le a
  have := namess_le l
  omega
end
theorem keyLit (s : ByteArray) : WideAt.IsKeyLit (litOf s) := by unfold litOf; exact trivial
theorem mem_keys {w : World} {B n : Nat} {l : List ByteArray} (h : NamesIn w B n (l.map litOf)) (x : List UInt8) : x ∈ strKeys (setOf yesD (l.map litOf)) ↔ mkB x ∈ l := by
 obtain ⟨es, hD, hko⟩ := World.ownsMap.keysOf h
 have hh : has (setOf yesD (l.map litOf)) (.string x) = (l.map litOf).any (fun y => y.sameKey (.string x)) := has_setOf _ _ _ (fun y hy => by
  obtain ⟨s, _, rfl⟩ := List.mem_map.1 hy
  exact keyLit s)
 have h1 : x ∈ strKeys (setOf yesD (l.map litOf)) ↔ has (setOf yesD (l.map litOf)) (.string x) = true := by
  rw [hD, has_eq, List.any_eq_true]
  show x ∈ es.map (fun p => strOf p.1) ↔ _
  rw [List.mem_map]
  constructor
  ·rintro ⟨p, hp, rfl⟩
   obtain ⟨v, hv⟩ := hko p hp
   obtain ⟨a, _, ha, _⟩ := Maps.keyOf_str Tryz.underlying9 hv
   exact ⟨p, hp, by rw [ha]; simp [Lit.sameKey, strOf]⟩
  ·rintro ⟨p, hp, hs⟩
   obtain ⟨v, hv⟩ := hko p hp
   obtain ⟨a, _, ha, _⟩ := Maps.keyOf_str Tryz.underlying9 hv
   rw [ha] at hs
   exact ⟨p, hp, by rw [ha]; simpa [Lit.sameKey, strOf] using hs⟩
 rw [h1, hh, List.any_eq_true]
 constructor
 ·rintro ⟨y, hy, hs⟩
  obtain ⟨s, h2, rfl⟩ := List.mem_map.1 hy
  have : s.data.toList = x := by simpa [litOf, Lit.sameKey] using hs
  rw [← this, mkB_data]; exact h2
 ·intro hx
  exact ⟨litOf (mkB x), List.mem_map.2 ⟨_, hx, rfl⟩, by simp [litOf, Lit.sameKey, data_mkB]⟩
theorem keys_once {w : World} {B n : Nat} {l : List ByteArray} (h : NamesIn w B n (l.map litOf)) : (strKeys (setOf yesD (l.map litOf))).Nodup := by
 obtain ⟨es, hD, hko⟩ := World.ownsMap.keysOf h
 obtain ⟨es', hD', hpw, _⟩ := World.ownsMap.entries h keyLaw
 obtain rfl : es' = es := by rw [hD] at hD'; simpa using hD'.symm
 rw [hD]
 show (es'.map (fun p => strOf p.1)).Nodup
 rw [List.nodup_iff_pairwise_ne, List.pairwise_map]
 refine hpw.imp_of_mem ?_
 intro a b ha hb hne e
 obtain ⟨va, hva⟩ := hko a ha
 obtain ⟨vb, hvb⟩ := hko b hb
 obtain ⟨x, _, hx, _⟩ := Maps.keyOf_str Tryz.underlying9 hva
 obtain ⟨y, _, hy, _⟩ := Maps.keyOf_str Tryz.underlying9 hvb
 rw [hx, hy] at e hne
 exact hne (congrArg Lit.string (by simpa [strOf] using e))
theorem keys_plain (mb : Option Nat) (W : World) : Calls Tryz.prog 80 #[.map mb] W fun e w' => e = .returned (.func (.func 146) #[] #[.pointer (some ⟨W.heap.size, 0, none⟩)]) ∧ w' = W.alloc (.cells #[.map mb] 129) :=
 callsIn_wide.1 (Tryz.maps_Keys_80 mb W)
def sortedOf (ss : List (List UInt8)) : List ByteArray := (ss.mergeSort (fun x y => decide (x ≤ y))).map mkB
theorem sorted_plain {l : List ByteArray} (b nn : Nat) (w : World) (hown : NamesIn w b nn (l.map litOf)) (hl : nn ≤ 1000000) :
  Calls Tryz.prog 79 #[.func (.func 146) #[] #[.pointer (some ⟨w.heap.size, 0, none⟩)]] (w.alloc (.cells #[.map (some b)] 129)) fun e w' => ∃ A n c ss, e = .returned (.slice A n c) ∧ ss.Perm (strKeys (setOf yesD (l.map litOf))) ∧ Sees w' A n c 1 (strCells (sortedOf ss)) ∧ Below w.heap.size w w' := by
 have hs : Maps.size (setOf yesD (l.map litOf)) ≤ nn := World.ownsMap.size_le hown
 refine (callsIn_wide.1 (Tryz.slices_Sorted_keys_79_80 b nn _ _ w hown (by unfold maxLen; omega) (by omega))).mono ?_
 rintro e w' ⟨v, ss, rfl, hp, hrow, _, hb⟩
 obtain ⟨A, c, rfl, hse⟩ := Sees.of_own hrow
 refine ⟨A, _, c, ss, rfl, hp, ?_, (belowNew' w (.cells #[.map (some b)] 129)).trans (hb.mono (by simp))⟩
 have e : (ss.mergeSort (fun x y => decide (x ≤ y))).map encStr = strCells (sortedOf ss) := by
  unfold strCells sortedOf
  rw [List.map_map]; rfl
 rw [← e]
 exact hse
def UsesSays (e : Ex) (w : World) (r : Ending) (w' : World) : Prop :=
 (checkErr e ≠ 0 ∧ r = .returned (.tuple #[.slice none 0 0, errV (checkErr e)]) ∧ Below w.heap.size w w') ∨
 (checkErr e = 0 ∧ ∃ A n c ss, r = .returned (.tuple #[.slice A n c, .nilIface]) ∧ Sees w' A n c 1 (strCells (sortedOf ss)) ∧ (∀ x, x ∈ ss ↔ mkB x ∈ exNames e) ∧ Below w.heap.size w w' ∧ ss.Nodup)
set_option maxHeartbeats 4000000 in
set_option maxRecDepth 100000 in
theorem uses_any (e : Ex) (w : World) (hT : LevelsT w) (hW : WordsT w) (he : SeesEx w e) : Calls Tryz.prog 24 #[exV e] w (UsesSays e w) := by
 obtain ⟨w1, hw1, ho, hb1, -⟩ := box_ex w e
 have TC := Lib.hid (check_any e w1 (hT.keep hb1) (hW.keep hb1) (he.keep hb1))
 unfold NodeSays exV at TC
 have HB1 := Lib.hid hb1
 have HO1 := Lib.hid ho
 have HE := Lib.hid he
 have HW1 := Lib.hid hw1
 obtain ⟨d0, d1, d2, d3, d4, d5, d6⟩ := ho.cells
 have hl1 := ho.lt
 have hmm := @run_makeMap Tryz.prog
 unfold exV
 clear hT hW he hw1 hb1 ho
 by_cases hk : checkErr e = 0
 ·have HK := Lib.hid hk
  have hle : (exNames e).length ≤ 200 := by
   obtain ⟨h1, h2, h3⟩ := checkErr_ok hk
   have := (size_ok 30 (Nat.le_refl _) _ h2 h3).1
   have := names_le e
   omega
  rw [hk, errV_zero] at TC
  clear hk
  go_enter Tryz.func24, Tryz.ntmps24
  go_wp2_with (first | rw [HW1.out])
  refine (TC.out).mono ?_
  rintro e' w2 ⟨rfl, hb2⟩
  have HB2 := Lib.hid (HB1.out.trans (hb2.mono HB1.out.size))
  obtain ⟨w3, hw3⟩ : ∃ w3, w2.alloc (.map #[] 0) = w3 := ⟨_, rfl⟩
  have hb3 := belowNew' w2 (.map #[] 0)
  have hn3 : NamesIn (w2.alloc (.map #[] 0)) w2.heap.size 0 ([].map litOf) := World.ownsMap_made w2 _ _ _
  rw [hw3] at hb3 hn3
  have HB3 := Lib.hid (HB2.out.trans (hb3.mono HB2.out.size))
  obtain ⟨d0, d1, d2, d3, d4, d5, d6⟩ := (HO1.out.keep (hb2.trans (hb3.mono hb2.size))).cells
  have TN := Lib.hid (names_any _ e (Nat.le_refl _) w w3 w2.heap.size 0 _ HE.out HB2.out.size HB3.out hn3 (by omega))
  unfold NamesSays exV at TN
  have HW3 := Lib.hid hw3
  have HSZ := Lib.hid HB2.out.size
  clear hw3 hb2 hb3 hn3 TC
  go_wp2_with (first | rw [HW3.out])
  refine (TN.out).mono ?_
  rintro e' w4 ⟨rfl, hown4, honl4⟩
  rw [List.map_nil, List.nil_append] at hown4
  have HB4 := Lib.hid (HB3.out.trans (honl4.below HB3.out.size (fun k e => e ▸ HSZ.out)))
  have TS := Lib.hid (sorted_plain w2.heap.size _ w4 hown4 (by omega))
  have HM := Lib.hid (fun x => mem_keys hown4 x)
  have HKO := Lib.hid (keys_once hown4)
  clear hown4 honl4 TN d0 d1 d2 d3 d4 d5 d6 hmm
  go_wp2_with fail
  refine (keys_plain _ _).mono ?_
  rintro e' w5 ⟨rfl, rfl⟩
  go_wp2_with fail
  refine (TS.out).mono ?_
  rintro e' w6 ⟨A, n, c, ss, rfl, hp, hse, hb6⟩
  have HB6 := Lib.hid (HB4.out.trans (hb6.mono HB4.out.size))
  have HSE := Lib.hid hse
  have HP := Lib.hid (fun x => (hp.mem_iff (a := x)).trans (HM.out x))
  have HND := Lib.hid (hp.nodup_iff.2 HKO.out)
  clear hb6 hse hp TS
  go_wp2_with fail
  go_ret2
  exact Or.inr ⟨HK.out, A, n, c, ss, rfl, HSE.out, HP.out, HB6.out, HND.out⟩
 ·have HR := Lib.hid (fun (w' : World) (hb : Below w.heap.size w w') => show UsesSays e w (.returned (.tuple #[.slice none 0 0, .iface 32 (.int .i64 (checkErr e))])) w' from Or.inl ⟨hk, by rw [errV_ne hk], hb⟩)
  rw [errV_ne hk] at TC
  clear hk hmm
  go_enter Tryz.func24, Tryz.ntmps24
  go_wp2_with (first | rw [HW1.out])
  refine (TC.out).mono ?_
  rintro e' w2 ⟨rfl, hb2⟩
  have HB2 := Lib.hid (HB1.out.trans (hb2.mono HB1.out.size))
  clear hb2
  go_wp2_with fail
  go_ret2
  exact HR.out _ HB2.out
end Go.Proofs.YtpbbkpfaphjdoaaGreatDoor
namespace Go.Proofs.YtpbbkpfaphjdoaaGreatDoor
open Go.ChangeShapes Go.WideShapes Go.ChangeAt Go.RowKit Go.Maps Go.Sort
theorem rise_eq : ∀ {l m : List (List UInt8)}, l.Pairwise (· < ·) → m.Pairwise (· < ·) → (∀ x, x ∈ l ↔ x ∈ m) → l = m
 | [], [], _, _, _ => rfl
 | [], b :: m, _, _, h => absurd ((h b).2 List.mem_cons_self) List.not_mem_nil
 | a :: l, [], _, _, h => absurd ((h a).1 List.mem_cons_self) List.not_mem_nil
 | a :: l, b :: m, hl, hm, h => by
  have hl' := List.pairwise_cons.1 hl
  have hm' := List.pairwise_cons.1 hm
  have e : a = b := by
   rcases List.mem_cons.1 ((h a).1 List.mem_cons_self) with e | h1
   ·exact e
   rcases List.mem_cons.1 ((h b).2 List.mem_cons_self) with e | h2
   ·exact e.symm
   exact absurd (hm'.1 a h1) (List.lt_asymm (hl'.1 b h2))
  subst e
  have : l = m := rise_eq hl'.2 hm'.2 fun x => by
   constructor
   ·intro hx
    rcases List.mem_cons.1 ((h x).1 (List.mem_cons_of_mem _ hx)) with e | h1
    ·subst e; exact absurd (hl'.1 x hx) (List.lt_irrefl x)
    ·exact h1
   ·intro hx
    rcases List.mem_cons.1 ((h x).2 (List.mem_cons_of_mem _ hx)) with e | h1
    ·subst e; exact absurd (hm'.1 x hx) (List.lt_irrefl x)
    ·exact h1
  rw [this]
theorem rise_put {l : List (List UInt8)} {n : List UInt8} {k : Nat} (hl : l.Pairwise (· < ·)) (hlo : ∀ x ∈ l.take k, x < n) (hhi : ∀ x ∈ l.drop k, n < x) :
  (l.take k ++ n :: l.drop k).Pairwise (· < ·) ∧ ∀ x, x ∈ l.take k ++ n :: l.drop k ↔ x = n ∨ x ∈ l := by
 have hm : ∀ x, x ∈ l ↔ x ∈ l.take k ∨ x ∈ l.drop k := fun x => by
  rw [← List.mem_append, List.take_append_drop]
 constructor
 ·rw [List.pairwise_append]
  refine ⟨hl.sublist (List.take_sublist _ _), ?_, ?_⟩
  ·rw [List.pairwise_cons]
   exact ⟨hhi, hl.sublist (List.drop_sublist _ _)⟩
  ·intro a ha b hb
   rcases List.mem_cons.1 hb with rfl | hb
   ·exact hlo a ha
   ·exact List.lt_trans (hlo a ha) (hhi b hb)
 ·intro x
  rw [List.mem_append, List.mem_cons, hm]
  constructor
  ·rintro (h | h | h)
   ·exact Or.inr (Or.inl h)
   ·exact Or.inl h
   ·exact Or.inr (Or.inr h)
  ·rintro (h | h | h)
   ·exact Or.inr (Or.inl h)
   ·exact Or.inl h
   ·exact Or.inr (Or.inr h)
theorem rise_low {l : List (List UInt8)} {n a : List UInt8} {k : Nat} (hl : l.Pairwise (· < ·)) (ha : l[k]? = some a) (hn : a < n) : ∀ x ∈ l.take (k + 1), x < n := by
 intro x hx
 obtain ⟨j, hj, e⟩ := List.getElem_of_mem hx
 have hk := (List.getElem?_eq_some_iff.1 ha).1
 have ea := (List.getElem?_eq_some_iff.1 ha).2
 rw [List.length_take] at hj
 rw [List.getElem_take] at e
 by_cases hjk : j = k
 ·subst hjk
  rw [← e, ea]; exact hn
 ·have := List.pairwise_iff_getElem.1 hl j k (by omega) hk (by omega)
  rw [e, ea] at this
  exact List.lt_trans this hn
theorem sort_rise {ss : List (List UInt8)} (hn : ss.Nodup) : (ss.mergeSort (fun x y => decide (x ≤ y))).Pairwise (· < ·) := by
 have h1 := List.pairwise_mergeSort (le := fun x y : List UInt8 => decide (x ≤ y)) (fun a b c h1 h2 => by
  simp only [decide_eq_true_eq] at h1 h2 ⊢; exact List.le_trans h1 h2) (fun a b => by
  simp only [Bool.or_eq_true, decide_eq_true_eq]; exact List.le_total a b) ss
 have h2 : (ss.mergeSort (fun x y => decide (x ≤ y))).Nodup := (List.mergeSort_perm _ _).nodup_iff.2 hn
 refine (h1.and h2).imp ?_
 rintro a b ⟨h, hne⟩
 simp only [decide_eq_true_eq] at h
 exact Std.lt_of_le_of_ne h hne
end Go.Proofs.YtpbbkpfaphjdoaaGreatDoor
