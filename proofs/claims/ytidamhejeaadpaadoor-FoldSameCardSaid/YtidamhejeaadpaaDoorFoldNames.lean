/- fold.names, walked: names of columns put into a map. -/
import Derived.Test.YtidamhejeaadpaaDoorFoldConst
import Derived.Test.YtidamhejeaadpaaDoorOnly
import Derived.Maps.Own
import Derived.Maps.Views
import Derived.StringKeys
namespace Go.Proofs.YtidamhejeaadpaaDoor
open Go.ChangeShapes Go.WideShapes Go.ChangeAt Go.RowKit Go.Maps

def litOf (s : ByteArray) : Lit := .string s.data.toList
def yesD : DataW Unit := .lit (.bool true)
theorem keyLaw : Keyed Tryd.prog 9 := string_keyed Tryd.underlying9
/-- The map of names, where it lies. -/
def NamesIn (w : World) (B n : Nat) (acc : List Lit) : Prop := w.ownsMap Tryd.prog 9 (plainElem Tryd.prog 4) B n (setOf yesD acc)
theorem NamesIn.same {w w' : World} {B n : Nat} {acc : List Lit} (h : NamesIn w B n acc) (hb : w'.heap[B]? = w.heap[B]?) : NamesIn w' B n acc := by
  obtain ⟨es, clock, h1, h2⟩ := h
  exact ⟨es, clock, hb.trans h1, h2⟩
theorem NamesIn.lt {w : World} {B n : Nat} {acc : List Lit} (h : NamesIn w B n acc) : B < w.heap.size := by
  obtain ⟨es, clock, h1, h2⟩ := h
  exact (Array.getElem?_eq_some_iff.1 h1).1
def NamesSays (e : Ex) (B n : Nat) (acc : List Lit) (w : World) (r : Ending) (w' : World) : Prop := r = .returned (.tuple #[]) ∧ NamesIn w' B (n + (exNames e).length) (acc ++ (exNames e).map litOf) ∧ Only (fun k => k = B) w w'
def NamesAt (m : Nat) : Prop := ∀ e : Ex, SizeOf.sizeOf e ≤ m → ∀ (w0 w : World) (B n : Nat) (acc : List Lit), SeesEx w0 e → w0.heap.size ≤ B → Below w0.heap.size w0 w → NamesIn w B n acc → n + (exNames e).length ≤ 1000000 → Calls Tryd.prog 45 #[exV e, .map (some B)] w (NamesSays e B n acc w)
theorem exNamess_app (l m : List Ex) : exNamess (l ++ m) = exNamess l ++ exNamess m := by
  induction l with
  | nil => rw [exNamess]; rfl
  | cons a l ih => rw [List.cons_append, exNamess, exNamess, ih, List.append_assoc]
theorem exNamess_next {l : List Ex} {k : Nat} {a : Ex} (h : l[k]? = some a) : exNamess (l.take (k + 1)) = exNamess (l.take k) ++ exNames a := by
  rw [List.take_add_one, h, exNamess_app]
  show _ ++ exNamess [a] = _
  rw [exNamess, exNamess, List.append_nil]
theorem exNamess_take_le (l : List Ex) (k : Nat) : (exNamess (l.take k)).length ≤ (exNamess l).length := by
  conv => rhs; rw [← List.take_append_drop k l, exNamess_app, List.length_append]
  omega
set_option maxHeartbeats 4000000 in
set_option maxRecDepth 100000 in
theorem names_step (m : Nat) (ih : NamesAt m) (op name : ByteArray) (v : Val) (A : Option Addr) (c : Nat) (args : List Ex) (pos : Int) (hm : SizeOf.sizeOf (Ex.mk op name v A c args pos) ≤ m + 1)
    (w0 w : World) (B n : Nat) (acc : List Lit) (he : SeesEx w0 (.mk op name v A c args pos)) (hB : w0.heap.size ≤ B) (hb : Below w0.heap.size w0 w) (hown : NamesIn w B n acc) (hn : n + (exNames (.mk op name v A c args pos)).length ≤ 1000000) :
    Calls Tryd.prog 45 #[exV (.mk op name v A c args pos), .map (some B)] w (NamesSays (.mk op name v A c args pos) B n acc w) := by
  have IH := Lib.hid ih
  have HM := Lib.hid (fun a (ha : a ∈ args) => show SizeOf.sizeOf a ≤ m by have := ex_lt (e := .mk op name v A c args pos) ha; omega)
  have HE := Lib.hid he
  have HBB := Lib.hid hB
  have HB := Lib.hid hb
  have HNM := Lib.hid (show exNames (.mk op name v A c args pos) = (if isCol op then [name] else []) ++ exNamess args by rw [exNames])
  have HN := Lib.hid hn
  obtain ⟨w1, hw1, ho, hb1, -⟩ := box_ex w (.mk op name v A c args pos)
  have HO1 := Lib.hid (hown.same (w' := w1) (hb1.block B hown.lt))
  have HB1 := Lib.hid (hb.trans (hb1.mono hb.size))
  have HOn := Lib.hid (Only.of_below (S := fun k => k = B) hb1)
  have hcap : args.length ≤ c := he.parts.1.2.1
  have hmax : c ≤ maxLen := he.parts.1.2.2.1
  have hns : name.size ≤ maxLen := he.parts.2.2.1
  unfold maxLen at hmax
  obtain ⟨n', hn'⟩ : ∃ n', args.length = n' := ⟨_, rfl⟩
  have HLn := Lib.hid hn'
  obtain ⟨x0, x1, -, -, -, x5, -⟩ := ho.cells
  replace x0 : w1.cell? ⟨w.heap.size, 0, none⟩ = some (.string op) := x0
  replace x1 : w1.cell? ⟨w.heap.size, 1, none⟩ = some (.string name) := x1
  replace x5 : w1.cell? ⟨w.heap.size, 5, none⟩ = some (.slice A args.length c) := x5
  have hl1 := ho.lt
  have HW1 : Hid (w.alloc (.cells #[.string op, .string name, .int .i64 v.type, .int .i64 v.n, .string v.s, .slice A args.length c, .int .i64 pos] 48) = w1) := Lib.hid hw1
  have HKEY := Lib.hid (show keyOf Tryd.prog 9 (.string name) = some (litOf name) from Go.WideMaps.keyOf_string_mk Tryd.underlying9 hns)
  have HNE := Lib.hid (show B ≠ w.heap.size from Nat.ne_of_lt hown.lt)
  show Calls Tryd.prog 45 #[.agg #[.string op, .string name, .int .i64 v.type, .int .i64 v.n, .string v.s, .slice A args.length c, .int .i64 pos], .map (some B)] w _
  rw [hn'] at x5 hcap HW1 ⊢
  have HX5 := Lib.hid x5
  clear ih hm he hB hb hown hn ho hb1 hw1 hn' hns
  by_cases hc : isCol op
  · have e1 := str_is (show op.data.toList = [99, 111, 108] from hc)
    rw [if_pos hc] at HNM
    clear hc
    have hl : n + 1 ≤ 1000000 := by have := HN.out; rw [HNM.out] at this; simp at this; omega
    go_enter Tryd.func45, Tryd.ntmps45
    go_wp2_with (first
      | rw [HW1.out]
      | (at_mapUpdate; refine wpList_mapUpdate_own _ rfl _ _ _ 94 rfl 9 4 keyLaw Tryd.underlying94 _ B n _ rfl HO1.out (by unfold maxLen; omega) _ _ _ rfl rfl HKEY.out _ [] (plainElem_bool Tryd.underlying4 true) ?_; intro w2 hown2 hgrow2; have HO2 := Lib.hid hown2; have HG2 := Lib.hid hgrow2; have x5 := (World.cell?_of_block (w := w1) (w' := w2) (a := ⟨w.heap.size, 5, none⟩) (hgrow2.block w.heap.size hl1 (fun e => HNE.out (Option.some.inj e).symm))).trans HX5.out; clear hown2 hgrow2))
    have HO3 := Lib.hid (show NamesIn w2 B (n + 1) (acc ++ [litOf name]) from by unfold NamesIn; rw [setOf_snoc]; exact HO2.out)
    have HOW := Lib.hid (show Only (fun k => k = B) w w2 from HOn.out.trans (Only.of_grown HG2.out (fun k e => Option.some.inj e)))
    have HBW := Lib.hid (show Below w0.heap.size w0 w2 from HB1.out.trans ((Only.of_grown (S := fun k => k = B) HG2.out (fun k e => Option.some.inj e)).below HB1.out.size (fun k e => e ▸ HBB.out)))
    clear HO1 x0 x1 x5
    go_loopw [15] (fun i wr => ∃ k : Nat, k ≤ n' ∧ i = .int .i64 k ∧ NamesIn wr B (n + 1 + (exNamess (args.take k)).length) ((acc ++ [litOf name]) ++ (exNamess (args.take k)).map litOf) ∧ Only (fun k => k = B) w2 wr) (fun i _ => n' - (intOf i).toNat)
    case atStart => exact ⟨0, by omega, rfl, by rw [List.take_zero, exNamess, List.map_nil, List.append_nil]; exact HO3.out, .of_below (Below.refl _ _)⟩
    case round =>
      obtain ⟨k, hk, rfl, hown, honl⟩ := hrel
      have HON := Lib.hid hown
      have HOL := Lib.hid honl
      have HBK := Lib.hid (show Below w0.heap.size w0 wr from HBW.out.trans (honl.below HBW.out.size (fun k e => e ▸ HBB.out)))
      clear hown honl
      by_cases hlk : k < n'
      · obtain ⟨g, o, x, (rfl : A = _), hg, hx, hsx, c0, c1, c2, c3, c4, c5, c6⟩ := (HE.out.keep HBK.out).at_ (k := k) (by show k < args.length; rw [HLn.out]; exact hlk)
        have HX := Lib.hid (show args[k]? = some x from hx)
        obtain ⟨w3, hw3, ho3, hb3, -⟩ := box_ex wr x
        obtain ⟨y0, y1, y2, y3, y4, y5, y6⟩ := ho3.cells
        have HO4 := Lib.hid (HON.out.same (w' := w3) (hb3.block B HON.out.lt))
        have HB3 := Lib.hid (HBK.out.trans (hb3.mono HBK.out.size))
        have HOL3 := Lib.hid (HOL.out.trans (.of_below (S := fun k => k = B) hb3))
        have HXN := Lib.hid (exNamess_next HX.out)
        have HEX := Lib.hid (show SeesEx w0 x from HE.out.parts.2.2.2.2.2 x (List.mem_of_getElem? HX.out))
        have hle : n + 1 + (exNamess (args.take k)).length + (exNames x).length ≤ 1000000 := by
          have h1 := exNamess_take_le args (k + 1)
          rw [HXN.out, List.length_append] at h1
          have h2 := HN.out
          rw [HNM.out, List.length_append] at h2
          simp at h2
          omega
        have T := Lib.hid (IH.out x (HM.out x (List.mem_of_getElem? HX.out)) w0 w3 B _ _ HEX.out HBB.out HB3.out HO4.out hle)
        unfold NamesSays exV at T
        have HW3 := Lib.hid hw3
        clear hx hsx ho3 hb3 hw3 hle
        go_wp2_with (first | rw [HW3.out])
        refine (T.out).mono ?_
        rintro e' w4 ⟨rfl, hown4, honl4⟩
        have HO5 := Lib.hid (show NamesIn w4 B (n + 1 + (exNamess (args.take (k + 1))).length) ((acc ++ [litOf name]) ++ (exNamess (args.take (k + 1))).map litOf) from by
          rw [HXN.out, List.length_append, List.map_append, ← List.append_assoc, ← Nat.add_assoc]
          exact hown4)
        have HOL5 := Lib.hid (HOL3.out.trans honl4)
        clear hown4 honl4 T
        go_wp2_with fail
        go_roundw
        case rel => exact ⟨k + 1, by omega, by go_num, HO5.out, HOL5.out⟩
        case measure => simp [intOf]; omega
      · obtain rfl : n' = k := by omega
        have HTK := Lib.hid (show args.take n' = args from List.take_of_length_le (by rw [HLn.out]; exact Nat.le_refl _))
        rw [HTK.out] at HON
        go_wp2_with fail
        go_end0
        refine ⟨rfl, ?_, HOW.out.trans HOL.out⟩
        rw [HNM.out, List.map_append, ← List.append_assoc, List.length_append, ← Nat.add_assoc]
        exact HON.out
  · have e1 := str_ne (show op.data.toList ≠ [99, 111, 108] from hc)
    rw [if_neg hc] at HNM
    clear hc
    go_enter Tryd.func45, Tryd.ntmps45
    go_wp2_with (first | rw [HW1.out])
    have HO3 := Lib.hid (show NamesIn w1 B (n + 0) (acc ++ ([] : List Lit)) from by rw [List.append_nil]; exact HO1.out)
    have HOW := Lib.hid (show Only (fun k => k = B) w w1 from HOn.out)
    have HBW := Lib.hid (show Below w0.heap.size w0 w1 from HB1.out.trans ((Only.of_below (S := fun k => k = B) (Below.refl w1.heap.size w1)).below HB1.out.size (fun k e => e ▸ HBB.out)))
    clear HO1 x0 x1 x5
    go_loopw [15] (fun i wr => ∃ k : Nat, k ≤ n' ∧ i = .int .i64 k ∧ NamesIn wr B (n + 0 + (exNamess (args.take k)).length) ((acc ++ ([] : List Lit)) ++ (exNamess (args.take k)).map litOf) ∧ Only (fun k => k = B) w1 wr) (fun i _ => n' - (intOf i).toNat)
    case atStart => exact ⟨0, by omega, rfl, by rw [List.take_zero, exNamess, List.map_nil, List.append_nil]; exact HO3.out, .of_below (Below.refl _ _)⟩
    case round =>
      obtain ⟨k, hk, rfl, hown, honl⟩ := hrel
      have HON := Lib.hid hown
      have HOL := Lib.hid honl
      have HBK := Lib.hid (show Below w0.heap.size w0 wr from HBW.out.trans (honl.below HBW.out.size (fun k e => e ▸ HBB.out)))
      clear hown honl
      by_cases hlk : k < n'
      · obtain ⟨g, o, x, (rfl : A = _), hg, hx, hsx, c0, c1, c2, c3, c4, c5, c6⟩ := (HE.out.keep HBK.out).at_ (k := k) (by show k < args.length; rw [HLn.out]; exact hlk)
        have HX := Lib.hid (show args[k]? = some x from hx)
        obtain ⟨w3, hw3, ho3, hb3, -⟩ := box_ex wr x
        obtain ⟨y0, y1, y2, y3, y4, y5, y6⟩ := ho3.cells
        have HO4 := Lib.hid (HON.out.same (w' := w3) (hb3.block B HON.out.lt))
        have HB3 := Lib.hid (HBK.out.trans (hb3.mono HBK.out.size))
        have HOL3 := Lib.hid (HOL.out.trans (.of_below (S := fun k => k = B) hb3))
        have HXN := Lib.hid (exNamess_next HX.out)
        have HEX := Lib.hid (show SeesEx w0 x from HE.out.parts.2.2.2.2.2 x (List.mem_of_getElem? HX.out))
        have hle : n + 0 + (exNamess (args.take k)).length + (exNames x).length ≤ 1000000 := by
          have h1 := exNamess_take_le args (k + 1)
          rw [HXN.out, List.length_append] at h1
          have h2 := HN.out
          rw [HNM.out, List.length_append] at h2
          simp at h2
          omega
        have T := Lib.hid (IH.out x (HM.out x (List.mem_of_getElem? HX.out)) w0 w3 B _ _ HEX.out HBB.out HB3.out HO4.out hle)
        unfold NamesSays exV at T
        have HW3 := Lib.hid hw3
        clear hx hsx ho3 hb3 hw3 hle
        go_wp2_with (first | rw [HW3.out])
        refine (T.out).mono ?_
        rintro e' w4 ⟨rfl, hown4, honl4⟩
        have HO5 := Lib.hid (show NamesIn w4 B (n + 0 + (exNamess (args.take (k + 1))).length) ((acc ++ ([] : List Lit)) ++ (exNamess (args.take (k + 1))).map litOf) from by
          rw [HXN.out, List.length_append, List.map_append, ← List.append_assoc, ← Nat.add_assoc]
          exact hown4)
        have HOL5 := Lib.hid (HOL3.out.trans honl4)
        clear hown4 honl4 T
        go_wp2_with fail
        go_roundw
        case rel => exact ⟨k + 1, by omega, by go_num, HO5.out, HOL5.out⟩
        case measure => simp [intOf]; omega
      · obtain rfl : n' = k := by omega
        have HTK := Lib.hid (show args.take n' = args from List.take_of_length_le (by rw [HLn.out]; exact Nat.le_refl _))
        rw [HTK.out] at HON
        go_wp2_with fail
        go_end0
        refine ⟨rfl, ?_, HOW.out.trans HOL.out⟩
        rw [HNM.out, List.map_append, ← List.append_assoc, List.length_append, ← Nat.add_assoc]
        exact HON.out
theorem names_any : ∀ m : Nat, NamesAt m
  | 0 => fun e hm _ _ _ _ _ _ _ _ _ _ => by cases e; simp at hm
  | m + 1 => fun e hm w0 w B n acc he hB hb hown hn => by
    obtain ⟨op, name, v, A, c, args, pos⟩ := e
    exact names_step m (names_any m) op name v A c args pos hm w0 w B n acc he hB hb hown hn
end Go.Proofs.YtidamhejeaadpaaDoor
