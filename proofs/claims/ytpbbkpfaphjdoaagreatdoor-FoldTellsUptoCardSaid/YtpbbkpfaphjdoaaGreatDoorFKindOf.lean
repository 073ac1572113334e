/- kind.of, kind.How and kind.Of, walked: the type of an expression over columns, or the fault and where. Of expressions that are right: their size does not go round, what is below one is right too; the type of an operation by those of its parts. No program in sight. -/
import Derived.Test.YtpbbkpfaphjdoaaGreatDoorFCheck
import Derived.Test.YtpbbkpfaphjdoaaGreatDoorFRule
import Derived.Test.YtpbbkpfaphjdoaaGreatDoorFSchema
import Derived.Test.YtpbbkpfaphjdoaaGreatDoorFOwn3
import Derived.Test.YtpbbkpfaphjdoaaGreatDoorFOwn2
namespace Go.Proofs.YtpbbkpfaphjdoaaGreatDoor
open Go.ChangeShapes Go.WideShapes Go.ChangeAt Go.RowKit
structure Res where
 t : Int
 h : Int
 p : Int
def resV (r : Res) : Value := .tuple #[.int .i64 r.t, .agg #[.int .i64 r.h, .int .i64 r.p]]
def colType (l : List Col) (k : Int) : Int := match l[k.toNat]? with | some c => c.type | none => 0
def ofNode (cols : List Col) (op name : ByteArray) (v : Val) (ts : List Int) (pos : Int) : Res :=
 if isVal op then ⟨v.type, 0, 0⟩
 else if isCol op then (if findCol cols name < 0 then ⟨0, 5, pos⟩ else ⟨colType cols (findCol cols name), 0, 0⟩)
 else if ruleErr op ts ≠ 0 then ⟨0, 8, pos⟩ else ⟨ruleTy op ts, 0, 0⟩
mutual
def ofE (cols : List Col) : Ex → Res
 | .mk op name v _ _ args pos => if (ofFault cols args).h ≠ 0 then ofFault cols args else ofNode cols op name v (ofTypes cols args) pos
def ofFault (cols : List Col) : List Ex → Res
 | [] => ⟨0, 0, 0⟩
 | a :: l => if (ofE cols a).h ≠ 0 then ⟨0, (ofE cols a).h, (ofE cols a).p⟩ else ofFault cols l
def ofTypes (cols : List Col) : List Ex → List Int
 | [] => []
 | a :: l => (ofE cols a).t :: ofTypes cols l
end
theorem ofE_mk (cols : List Col) (op name : ByteArray) (v : Val) (A : Option Addr) (c : Nat) (args : List Ex) (pos : Int) :
  ofE cols (.mk op name v A c args pos) = if (ofFault cols args).h ≠ 0 then ofFault cols args else ofNode cols op name v (ofTypes cols args) pos := by rw [ofE]
theorem ofTypes_map (cols : List Col) : ∀ l : List Ex, ofTypes cols l = l.map fun a => (ofE cols a).t
 | [] => by rw [ofTypes]; rfl
 | a :: l => by rw [ofTypes, ofTypes_map cols l]; rfl
theorem ofTypes_next {cols : List Col} {l : List Ex} {k : Nat} {a : Ex} (h : l[k]? = some a) : intCells (ofTypes cols (l.take (k + 1))) = intCells (ofTypes cols (l.take k)) ++ [.int .i64 (ofE cols a).t] := by
 rw [ofTypes_map, ofTypes_map, List.take_add_one, h]; simp [intCells]
theorem ofFault_hit {cols : List Col} : ∀ {l : List Ex} {k : Nat} {a : Ex}, (ofFault cols (l.take k)).h = 0 → l[k]? = some a → (ofE cols a).h ≠ 0 → ofFault cols l = ⟨0, (ofE cols a).h, (ofE cols a).p⟩
 | x :: l, 0, a, _, hk, ha => by
  simp only [List.getElem?_cons_zero, Option.some.injEq] at hk
  subst hk
  rw [ofFault, if_pos ha]
 | x :: l, k + 1, a, h, hk, ha => by
  rw [List.take_succ_cons, ofFault] at h
  rw [ofFault]
  by_cases hx : (ofE cols x).h = 0
  ·rw [if_neg (by simp [hx])] at h ⊢
   exact ofFault_hit h (by simpa using hk) ha
  ·rw [if_pos hx] at h; exact absurd h hx
 | [], k, a, _, hk, _ => by simp at hk
theorem ofFault_next {cols : List Col} : ∀ {l : List Ex} {k : Nat} {a : Ex}, (ofFault cols (l.take k)).h = 0 → l[k]? = some a → (ofE cols a).h = 0 → (ofFault cols (l.take (k + 1))).h = 0
 | x :: l, 0, a, _, hk, ha => by
  simp only [List.getElem?_cons_zero, Option.some.injEq] at hk
  subst hk
  simp [ofFault, ha]
 | x :: l, k + 1, a, h, hk, ha => by
  rw [List.take_succ_cons, ofFault] at h ⊢
  by_cases hx : (ofE cols x).h = 0
  ·rw [if_neg (by simp [hx])] at h ⊢
   exact ofFault_next h (by simpa using hk) ha
  ·rw [if_pos hx] at h; exact absurd h hx
 | [], k, a, _, hk, _ => by simp at hk
theorem findCol_get {l : List Col} {s : ByteArray} (h : 0 ≤ findCol l s) : ∃ (k : Nat) (x : Col), findCol l s = k ∧ l[k]? = some x ∧ x.name = s := by
 unfold findCol at h ⊢
 cases hh : l.findIdx? (isName s) with
 | none => rw [hh] at h; simp at h
 | some i =>
  obtain ⟨hi, h1, _⟩ := List.findIdx?_eq_some_iff_getElem.1 hh
  exact ⟨i, l[i], rfl, List.getElem?_eq_getElem hi, by simpa [isName] using h1⟩
def ResSays (r : Res) (w : World) (e : Ending) (w' : World) : Prop := e = .returned (resV r) ∧ Below w.heap.size w w'
structure SeesC where
 B : Option Addr
 p : Nat
 q : Nat
 cols : List Col
def OfAt (m : Nat) : Prop := ∀ e : Ex, SizeOf.sizeOf e ≤ m → ∀ (C : Option Addr) (p q : Nat) (cols : List Col) (w : World), LevelsT w → OpsT w → SeesCols w C p q cols → SeesEx w e → nodesErr e = 0 →
  Calls Tryz.prog 141 #[exV e, .slice C p q] w (ResSays (ofE cols e) w)
set_option maxHeartbeats 1000000 in
set_option maxRecDepth 100000 in
theorem of_step (m : Nat) (ih : OfAt m) (op name : ByteArray) (v : Val) (A : Option Addr) (c : Nat) (args : List Ex) (pos : Int) (hm : SizeOf.sizeOf (Ex.mk op name v A c args pos) ≤ m + 1)
  (C : Option Addr) (p q : Nat) (cols : List Col) (w : World) (hT : LevelsT w) (hO : OpsT w) (hC : SeesCols w C p q cols) (he : SeesEx w (.mk op name v A c args pos)) (hne : nodesErr (.mk op name v A c args pos) = 0) :
  Calls Tryz.prog 141 #[exV (.mk op name v A c args pos), .slice C p q] w (ResSays (ofE cols (.mk op name v A c args pos)) w) := by
 have IH := Lib.hid ih
 have HM := Lib.hid (fun a (ha : a ∈ args) => show SizeOf.sizeOf a ≤ m by have := ex_lt (e := .mk op name v A c args pos) ha; omega)
 have hb0 : Below w.heap.size w ((w.alloc (.cells #[.string op, .string name, .int .i64 v.type, .int .i64 v.n, .string v.s, .slice A args.length c, .int .i64 pos] 26)).alloc (.cells #[.int .i64 0, .int .i64 0] 34)) := ((Below.refl _ _).alloc (Nat.le_refl _) _).alloc (by simp) _
 have ho : Own2 ((w.alloc (.cells #[.string op, .string name, .int .i64 v.type, .int .i64 v.n, .string v.s, .slice A args.length c, .int .i64 pos] 26)).alloc (.cells #[.int .i64 0, .int .i64 0] 34)) (w.heap.size + 1) 0 0 := by
  have := own2_new (w.alloc (.cells #[.string op, .string name, .int .i64 v.type, .int .i64 v.n, .string v.s, .slice A args.length c, .int .i64 pos] 26)) 0 0
  simpa using this
 have HE := Lib.hid (he.keep hb0)
 have HT := Lib.hid (hT.keep hb0)
 have HO := Lib.hid (hO.keep hb0)
 have HCo := Lib.hid (hC.keep hb0)
 have HV := Lib.hid ho
 have HB := Lib.hid hb0
 have HNE := Lib.hid (nodesErr_parts hne)
 have hn3 := (nodeErr_len HNE.out.1).2.2
 have hcap : args.length ≤ c := he.parts.1.2.1
 have hmax : c ≤ maxLen := he.parts.1.2.2.1
 unfold maxLen at hmax
 have hq : p ≤ q := hC.2.2.1
 have hqm : q ≤ maxLen := hC.2.2.2.1
 unfold maxLen at hqm
 have HS := Lib.hid (ofE_mk cols op name v A c args pos)
 have CE := Lib.hid (fun (w1 : World) (hb : Below ((w.alloc (.cells #[.string op, .string name, .int .i64 v.type, .int .i64 v.n, .string v.s, .slice A args.length c, .int .i64 pos] 26)).alloc (.cells #[.int .i64 0, .int .i64 0] 34)).heap.size ((w.alloc (.cells #[.string op, .string name, .int .i64 v.type, .int .i64 v.n, .string v.s, .slice A args.length c, .int .i64 pos] 26)).alloc (.cells #[.int .i64 0, .int .i64 0] 34)) w1) (j : Nat) (u : Value) (hu : (#[Value.string op, .string name, .int .i64 v.type, .int .i64 v.n, .string v.s, .slice A args.length c, .int .i64 pos] : Array Value)[j]? = some u) =>
  (show w1.cell? ⟨w.heap.size, j, none⟩ = some u from (hb.cell (p := ⟨w.heap.size, j, none⟩) (by simp; omega)).trans (((Below.refl (w.alloc (.cells #[.string op, .string name, .int .i64 v.type, .int .i64 v.n, .string v.s, .slice A args.length c, .int .i64 pos] 26)).heap.size _).alloc (Nat.le_refl _) _).cell (p := ⟨w.heap.size, j, none⟩) (by simp) |>.trans (by rw [cell_of_row _ _ _ _ _ _ (heap_alloc_new w _)]; exact hu))))
 show Calls Tryz.prog 141 #[.agg #[.string op, .string name, .int .i64 v.type, .int .i64 v.n, .string v.s, .slice A args.length c, .int .i64 pos], .slice C p q] w _
 clear ih hm hT hO hC he hne hb0 ho
 generalize hn : args.length = n at hcap HE HB HT HO HCo HV HNE hn3 CE ⊢
 have HLn := Lib.hid hn
 clear hn
 go_enter Tryz.func141, Tryz.ntmps141
 go_wp2_with fail
 generalize (w.alloc (.cells #[.string op, .string name, .int .i64 v.type, .int .i64 v.n, .string v.s, .slice A n c, .int .i64 pos] 26)).alloc (.cells #[.int .i64 0, .int .i64 0] 34) = w0 at HE HB HT HO HCo HV CE ⊢
 go_loopw [6, 18] (fun ts i wr => ∃ k : Nat, k ≤ n ∧ i = .int .i64 k ∧ wr.ownsRow w0.heap.size 3 1 ts k (intCells (ofTypes cols (args.take k))) ∧ Below w0.heap.size w0 wr ∧ (ofFault cols (args.take k)).h = 0) (fun _ i _ => n - (intOf i).toNat)
 case atStart => exact ⟨0, by omega, rfl, World.ownsRow_nil _ _ _ _, Below.refl _ _, rfl⟩
 case round =>
  obtain ⟨k, hk, rfl, hown, hb, hno⟩ := hrel
  have HN := Lib.hid hno
  have HBR := Lib.hid hb
  have HSZ := Lib.hid hb.size
  clear hno
  by_cases hlk : k < n
  ·obtain ⟨g, o, x, (rfl : A = _), hg, hx, hsx, c0, c1, c2, c3, c4, c5, c6⟩ := (HE.out.keep hb).at_ (k := k) (by show k < args.length; rw [HLn.out]; exact hlk)
   have HX := Lib.hid (show args[k]? = some x from hx)
   have hbx : Below wr.heap.size wr (wr.alloc (.cells #[.string x.op, .string x.name, .int .i64 x.val.type, .int .i64 x.val.n, .string x.val.s, .slice x.A x.args.length x.c, .int .i64 x.pos] 26)) := (Below.refl _ _).alloc (Nat.le_refl _) _
   have T := Lib.hid (IH.out x (HM.out x (List.mem_of_getElem? HX.out)) C p q cols _ ((HT.out.keep hb).keep hbx) ((HO.out.keep hb).keep hbx) ((HCo.out.keep hb).keep hbx) (hsx.keep hbx) (nodesErrs_all HNE.out.2 x (List.mem_of_getElem? HX.out)))
   have HBX := Lib.hid hbx
   have HOW := Lib.hid hown
   unfold exV at T
   have EN := Lib.hid (ofTypes_next (cols := cols) HX.out)
   have EH := Lib.hid (fun h => ofFault_hit (cols := cols) HN.out HX.out h)
   have EX := Lib.hid (fun h => ofFault_next (cols := cols) HN.out HX.out h)
   clear hb hx hsx hbx hown
   generalize ofE cols x = r at T EN EH EX
   obtain ⟨rt, rh, rp⟩ := r
   by_cases hrh : rh = 0
   ·have EX2 := Lib.hid (EX.out hrh)
    subst hrh
    clear EX EH
    go_wp2_with fail
    refine (T.out).mono ?_
    rintro e' w2 ⟨rfl, hb1⟩
    have hbx := below_step HBX.out hb1
    have hbx2 := below_step hbx ((Below.refl w2.heap.size w2).alloc (Nat.le_refl _) (.cells #[.int .i64 0, .int .i64 rp] 34))
    have hown1 := own_keep HOW.out hbx2
    have hb2 := (HBR.out).trans (hbx2.mono HSZ.out)
    clear hb1 hbx hbx2
    obtain ⟨w3, hw3⟩ : ∃ w3, w2.alloc (.cells #[.int .i64 0, .int .i64 rp] 34) = w3 := ⟨_, rfl⟩
    have k0 : w3.cell? ⟨w2.heap.size, 0, none⟩ = some (.int .i64 0) := by rw [← hw3]; simp
    rw [hw3] at hown1 hb2
    have HW3 := Lib.hid hw3
    clear hw3
    unfold resV
    go_wp2_with (first
     | rw [HW3.out]
     | (at_builtin; refine wpList_append_one intSlice rfl _ _ rfl rfl rfl hown1 hb2 (Nat.le_refl _) rfl (by intro u hu; simp at hu; subst hu; rfl) (by omega) ?_; intro v1 w4 hown2 hb3 _))
    go_roundw
    case rel => exact ⟨k + 1, by omega, by go_num, by rw [EN.out]; exact hown2, hb3, EX2.out⟩
    case measure => simp [intOf]; omega
   ·have E := Lib.hid (EH.out hrh)
    have e1 : (rh != 0) = true := by simpa using hrh
    have HNE2 := Lib.hid hrh
    clear EX EH hrh
    go_wp2_with fail
    refine (T.out).mono ?_
    rintro e' w2 ⟨rfl, hb1⟩
    have hbx2 := below_step (below_step HBX.out hb1) ((Below.refl w2.heap.size w2).alloc (Nat.le_refl _) (.cells #[.int .i64 rh, .int .i64 rp] 34))
    obtain ⟨w3, hw3⟩ : ∃ w3, w2.alloc (.cells #[.int .i64 rh, .int .i64 rp] 34) = w3 := ⟨_, rfl⟩
    have k0 : w3.cell? ⟨w2.heap.size, 0, none⟩ = some (.int .i64 rh) := by rw [← hw3]; simp
    have k1 : w3.cell? ⟨w2.heap.size, 1, none⟩ = some (.int .i64 rp) := by rw [← hw3]; simp
    rw [hw3] at hbx2
    have HB2 := Lib.hid ((HBR.out).trans (hbx2.mono HSZ.out))
    have HV2 := Lib.hid (HV.out.keep HB2.out)
    obtain ⟨o0, o1, z0, z1, hlt⟩ := HV2.out.cells
    have HW3 := Lib.hid hw3
    clear hb1 hbx2 hw3
    unfold resV
    go_wp2_with (first | rw [HW3.out])
    go_region
    go_wp2_with fail
    have HO4 : Own2 ((w3.setCell ⟨w.heap.size + 1, 0, none⟩ (.int .i64 rh)).setCell ⟨w.heap.size + 1, 1, none⟩ (.int .i64 rp)).drew (w.heap.size + 1) rh rp := own2_set HV2.out rh rp
    have HB4 := Lib.hid (below_set2 (below_step HB.out HB2.out) (Nat.le_succ _) (.int .i64 rh) (.int .i64 rp)).drew
    generalize ((w3.setCell ⟨w.heap.size + 1, 0, none⟩ (.int .i64 rh)).setCell ⟨w.heap.size + 1, 1, none⟩ (.int .i64 rp)).drew = w4 at HO4 HB4 ⊢
    clear o0 o1 z0 z1 hlt
    obtain ⟨o0, o1, z0, z1, hlt⟩ := HO4.cells
    refine bodyPost_ret (v := .tuple #[.int .i64 0, .agg #[.int .i64 rh, .int .i64 rp]]) (by simp [results, Tryz.results141, go_sem, o0, o1]) rfl ⟨?_, HB4.out⟩
    rw [HS.out, if_pos (by rw [E.out]; exact HNE2.out), E.out]
    rfl
  ·obtain rfl : n = k := by omega
   have htk : args.take n = args := List.take_of_length_le (by rw [HLn.out]; exact Nat.le_refl _)
   rw [htk] at hown
   have HF := Lib.hid (show (ofFault cols args).h = 0 by have := HN.out; rwa [htk] at this)
   have HS2 := Lib.hid (show ofE cols (.mk op name v A c args pos) = ofNode cols op name v (ofTypes cols args) pos by rw [HS.out, if_neg (by rw [HF.out]; decide)])
   obtain ⟨A2, c2, rfl, hs2⟩ := Sees.of_own hown
   have HSe := Lib.hid hs2
   have HV1 := Lib.hid (HV.out.keep hb)
   obtain ⟨o0, o1, z0, z1, hlt⟩ := HV1.out.cells
   have d0 := CE.out wr hb 0 _ rfl
   have d1 := CE.out wr hb 1 _ rfl
   have d2 := CE.out wr hb 2 _ rfl
   have d6 := CE.out wr hb 6 _ rfl
   clear hb hown htk hs2
   by_cases hv : isVal op
   ·have E := Lib.hid (show ofNode cols op name v (ofTypes cols args) pos = ⟨v.type, 0, 0⟩ by unfold ofNode; rw [if_pos hv])
    have e1 := str_is hv
    clear hv
    go_wp2_with fail
    have HO4 := own2_set HV1.out 0 0
    have HB4 := Lib.hid (below_set2 (below_step HB.out HBR.out) (Nat.le_succ _) (.int .i64 0) (.int .i64 0))
    generalize (wr.setCell ⟨w.heap.size + 1, 0, none⟩ (.int .i64 0)).setCell ⟨w.heap.size + 1, 1, none⟩ (.int .i64 0) = w4 at HO4 HB4 ⊢
    clear o0 o1 z0 z1 hlt
    obtain ⟨o0, o1, z0, z1, hlt⟩ := HO4.cells
    refine bodyPost_ret (v := .tuple #[.int .i64 v.type, .agg #[.int .i64 0, .int .i64 0]]) (by simp [results, Tryz.results141, go_sem, o0, o1]) rfl ⟨?_, HB4.out⟩
    rw [HS2.out, E.out]
    rfl
   ·have e1 := str_ne hv
    by_cases hc : isCol op
    ·have e2 := str_is hc
     by_cases hf : findCol cols name < 0
     ·have E := Lib.hid (show ofNode cols op name v (ofTypes cols args) pos = ⟨0, 5, pos⟩ by unfold ofNode; rw [if_neg hv, if_pos hc, if_pos hf])
      have T := Lib.hid (rFind_none cols name C p q wr (HCo.out.keep HBR.out) hf)
      clear hv hc hf
      go_wp2_with fail
      refine (T.out).mono ?_
      rintro e' w2 ⟨rfl, hb1⟩
      have HB2 := Lib.hid ((HBR.out).trans (hb1.mono HSZ.out))
      have HV2 := Lib.hid (HV1.out.keep hb1)
      clear o0 o1 z0 z1 hlt d0 d1 d2 d6
      obtain ⟨o0, o1, z0, z1, hlt⟩ := HV2.out.cells
      have d6 := CE.out w2 HB2.out 6 _ rfl
      clear hb1
      go_wp2_with fail
      go_region
      go_wp2_with fail
      have HO4 : Own2 ((w2.setCell ⟨w.heap.size + 1, 0, none⟩ (.int .i64 5)).setCell ⟨w.heap.size + 1, 1, none⟩ (.int .i64 pos)).drew (w.heap.size + 1) 5 pos := own2_set HV2.out 5 pos
      have HB4 := Lib.hid (below_set2 (below_step HB.out HB2.out) (Nat.le_succ _) (.int .i64 5) (.int .i64 pos)).drew
      generalize ((w2.setCell ⟨w.heap.size + 1, 0, none⟩ (.int .i64 5)).setCell ⟨w.heap.size + 1, 1, none⟩ (.int .i64 pos)).drew = w4 at HO4 HB4 ⊢
      clear o0 o1 z0 z1 hlt
      obtain ⟨o0, o1, z0, z1, hlt⟩ := HO4.cells
      refine bodyPost_ret (v := .tuple #[.int .i64 0, .agg #[.int .i64 5, .int .i64 pos]]) (by simp [results, Tryz.results141, go_sem, o0, o1]) rfl ⟨?_, HB4.out⟩
      rw [HS2.out, E.out]
      rfl
     ·obtain ⟨j, x, hj, hx, hxn⟩ := findCol_get (Int.not_lt.1 hf)
      have E := Lib.hid (show ofNode cols op name v (ofTypes cols args) pos = ⟨x.type, 0, 0⟩ by
       unfold ofNode colType; rw [if_neg hv, if_pos hc, if_neg hf, hj]; simp [hx])
      have T := Lib.hid (rFind_some cols name C p q wr (HCo.out.keep HBR.out) (Int.not_lt.1 hf))
      have HJ := Lib.hid hj
      have hjp : j < p := by have h1 := (List.getElem?_eq_some_iff.1 hx).1; have h2 := HCo.out.1; omega
      have HX := Lib.hid hx
      clear hv hc hf hj hx hxn
      go_wp2_with fail
      refine (T.out).mono ?_
      rintro e' w2 ⟨rfl, hb1⟩
      rw [HJ.out]
      have HB2 := Lib.hid ((HBR.out).trans (hb1.mono HSZ.out))
      have HV2 := Lib.hid (HV1.out.keep hb1)
      clear o0 o1 z0 z1 hlt d0 d1 d2 d6
      obtain ⟨o0, o1, z0, z1, hlt⟩ := HV2.out.cells
      obtain ⟨g2, ob, x2, rfl, hg2, hx2, k0, k1⟩ := ((HCo.out.keep HBR.out).keep hb1).at_ hjp
      obtain rfl : x2 = x := by have := hx2.symm.trans HX.out; injection this
      clear hb1 hx2
      go_wp2_with fail
      have HO4 := own2_set HV2.out 0 0
      have HB4 := Lib.hid (below_set2 (below_step HB.out HB2.out) (Nat.le_succ _) (.int .i64 0) (.int .i64 0))
      generalize (w2.setCell ⟨w.heap.size + 1, 0, none⟩ (.int .i64 0)).setCell ⟨w.heap.size + 1, 1, none⟩ (.int .i64 0) = w4 at HO4 HB4 ⊢
      clear o0 o1 z0 z1 hlt
      obtain ⟨o0, o1, z0, z1, hlt⟩ := HO4.cells
      refine bodyPost_ret (v := .tuple #[.int .i64 x2.type, .agg #[.int .i64 0, .int .i64 0]]) (by simp [results, Tryz.results141, go_sem, o0, o1]) rfl ⟨?_, HB4.out⟩
      rw [HS2.out, E.out]
      rfl
    ·have e2 := str_ne hc
     have T := Lib.hid (rule_any op (ofTypes cols args) A2 n c2 wr (HO.out.keep HBR.out) (HT.out.keep HBR.out) HSe.out)
     have EN := Lib.hid (show ofNode cols op name v (ofTypes cols args) pos = if ruleErr op (ofTypes cols args) ≠ 0 then ⟨0, 8, pos⟩ else ⟨ruleTy op (ofTypes cols args), 0, 0⟩ by unfold ofNode; rw [if_neg hv, if_neg hc])
     clear hv hc
     generalize ruleTy op (ofTypes cols args) = rt at T EN
     generalize ruleErr op (ofTypes cols args) = rk at T EN
     by_cases hr : rk = 0
     ·have E := Lib.hid (show ofNode cols op name v (ofTypes cols args) pos = ⟨rt, 0, 0⟩ by rw [EN.out, if_neg (by simp [hr])])
      subst hr
      go_wp2_with fail
      refine (T.out).mono ?_
      rintro e' w2 ⟨rfl, hb1⟩
      rw [errV_zero]
      have HB2 := Lib.hid ((HBR.out).trans (hb1.mono HSZ.out))
      have HV2 := Lib.hid (HV1.out.keep hb1)
      clear o0 o1 z0 z1 hlt d0 d1 d2 d6 hb1
      obtain ⟨o0, o1, z0, z1, hlt⟩ := HV2.out.cells
      go_wp2_with fail
      have HO4 := own2_set HV2.out 0 0
      have HB4 := Lib.hid (below_set2 (below_step HB.out HB2.out) (Nat.le_succ _) (.int .i64 0) (.int .i64 0))
      generalize (w2.setCell ⟨w.heap.size + 1, 0, none⟩ (.int .i64 0)).setCell ⟨w.heap.size + 1, 1, none⟩ (.int .i64 0) = w4 at HO4 HB4 ⊢
      clear o0 o1 z0 z1 hlt
      obtain ⟨o0, o1, z0, z1, hlt⟩ := HO4.cells
      refine bodyPost_ret (v := .tuple #[.int .i64 rt, .agg #[.int .i64 0, .int .i64 0]]) (by simp [results, Tryz.results141, go_sem, o0, o1]) rfl ⟨?_, HB4.out⟩
      rw [HS2.out, E.out]
      rfl
     ·have E := Lib.hid (show ofNode cols op name v (ofTypes cols args) pos = ⟨0, 8, pos⟩ by rw [EN.out, if_pos hr])
      have HK := Lib.hid (errV_ne hr)
      clear hr
      go_wp2_with fail
      refine (T.out).mono ?_
      rintro e' w2 ⟨rfl, hb1⟩
      rw [HK.out]
      have HB2 := Lib.hid ((HBR.out).trans (hb1.mono HSZ.out))
      have HV2 := Lib.hid (HV1.out.keep hb1)
      clear o0 o1 z0 z1 hlt d0 d1 d2 d6 hb1
      obtain ⟨o0, o1, z0, z1, hlt⟩ := HV2.out.cells
      have d6 := CE.out w2 HB2.out 6 _ rfl
      go_wp2_with fail
      go_region
      go_wp2_with fail
      have HO4 : Own2 ((w2.setCell ⟨w.heap.size + 1, 0, none⟩ (.int .i64 8)).setCell ⟨w.heap.size + 1, 1, none⟩ (.int .i64 pos)).drew (w.heap.size + 1) 8 pos := own2_set HV2.out 8 pos
      have HB4 := Lib.hid (below_set2 (below_step HB.out HB2.out) (Nat.le_succ _) (.int .i64 8) (.int .i64 pos)).drew
      generalize ((w2.setCell ⟨w.heap.size + 1, 0, none⟩ (.int .i64 8)).setCell ⟨w.heap.size + 1, 1, none⟩ (.int .i64 pos)).drew = w4 at HO4 HB4 ⊢
      clear o0 o1 z0 z1 hlt
      obtain ⟨o0, o1, z0, z1, hlt⟩ := HO4.cells
      refine bodyPost_ret (v := .tuple #[.int .i64 0, .agg #[.int .i64 8, .int .i64 pos]]) (by simp [results, Tryz.results141, go_sem, o0, o1]) rfl ⟨?_, HB4.out⟩
      rw [HS2.out, E.out]
      rfl
theorem kof_any : ∀ m : Nat, OfAt m
 | 0 => fun e hm _ _ _ _ _ _ _ _ _ _ => by cases e; simp at hm
 | m + 1 => fun e hm C p q cols w hT hO hC he hne => by
  obtain ⟨op, name, v, A, c, args, pos⟩ := e
  exact of_step m (kof_any m) op name v A c args pos hm C p q cols w hT hO hC he hne
theorem assert_none (w : World) : (Instr.typeAssert .nilIface 38 32 true).run Tryz.prog w = .ok (.tuple #[.int .i64 0, .bool false]) w := by kernel_rfl
theorem assert_some (k : Int) (w : World) : (Instr.typeAssert (.iface 32 (.int .i64 k)) 38 32 true).run Tryz.prog w = .ok (.tuple #[.int .i64 k, .bool true]) w := by kernel_rfl
set_option maxRecDepth 100000 in
theorem how_any (k : Int) (w : World) : Calls Tryz.prog 140 #[errV k] w fun e w' => e = .returned (.int .i64 k) ∧ w = w' := by
 have f0 := assert_none
 have f1 := assert_some
 by_cases hk : k = 0
 ·subst hk
  rw [errV_zero]
  go_enter Tryz.func140, Tryz.ntmps140
  go_wp2_with fail
  go_ret
  exact ⟨rfl, rfl⟩
 ·rw [errV_ne hk]
  clear hk
  go_enter Tryz.func140, Tryz.ntmps140
  go_wp2_with fail
  go_ret
  exact ⟨rfl, rfl⟩
def typeOf (cols : List Col) (e : Ex) : Res := if checkErr e ≠ 0 then ⟨0, checkErr e, 0⟩ else if schemaErr cols ≠ 0 then ⟨0, schemaErr cols, 0⟩ else ofE cols e
theorem checkErr_nodes {e : Ex} (h : checkErr e = 0) : nodesErr e = 0 := by
 unfold checkErr at h
 split at h
 ·omega
 ·exact h
structure Tables (w : World) : Prop where
 lev : LevelsT w
 ops : OpsT w
 words : WordsT w
theorem Tables.keep {w w' : World} (h : Tables w) (hb : Below w.heap.size w w') : Tables w' := ⟨h.lev.keep hb, h.ops.keep hb, h.words.keep hb⟩
set_option maxHeartbeats 1000000 in
set_option maxRecDepth 100000 in
theorem typeOf_any (e : Ex) (C : Option Addr) (p q : Nat) (cols : List Col) (w : World) (hT : Tables w) (hC : SeesCols w C p q cols) (hs : ∀ x ∈ cols, x.name.size ≤ maxLen) (he : SeesEx w e) :
  Calls Tryz.prog 73 #[exV e, .slice C p q] w (ResSays (typeOf cols e) w) := by
 obtain ⟨op, name, v, A, c, args, pos⟩ := e
 have hb0 : Below w.heap.size w ((w.alloc (.cells #[.string op, .string name, .int .i64 v.type, .int .i64 v.n, .string v.s, .slice A args.length c, .int .i64 pos] 26)).alloc (.cells #[.int .i64 0, .int .i64 0] 34)) := ((Below.refl _ _).alloc (Nat.le_refl _) _).alloc (by simp) _
 have ho : Own2 ((w.alloc (.cells #[.string op, .string name, .int .i64 v.type, .int .i64 v.n, .string v.s, .slice A args.length c, .int .i64 pos] 26)).alloc (.cells #[.int .i64 0, .int .i64 0] 34)) (w.heap.size + 1) 0 0 := by
  have := own2_new (w.alloc (.cells #[.string op, .string name, .int .i64 v.type, .int .i64 v.n, .string v.s, .slice A args.length c, .int .i64 pos] 26)) 0 0
  simpa using this
 have HE := Lib.hid (he.keep hb0)
 have HT := Lib.hid (hT.keep hb0)
 have HCo := Lib.hid (hC.keep hb0)
 have HV := Lib.hid ho
 have HB := Lib.hid hb0
 have HSm := Lib.hid hs
 have CE := Lib.hid (fun (w1 : World) (hb : Below ((w.alloc (.cells #[.string op, .string name, .int .i64 v.type, .int .i64 v.n, .string v.s, .slice A args.length c, .int .i64 pos] 26)).alloc (.cells #[.int .i64 0, .int .i64 0] 34)).heap.size ((w.alloc (.cells #[.string op, .string name, .int .i64 v.type, .int .i64 v.n, .string v.s, .slice A args.length c, .int .i64 pos] 26)).alloc (.cells #[.int .i64 0, .int .i64 0] 34)) w1) (j : Nat) (u : Value) (hu : (#[Value.string op, .string name, .int .i64 v.type, .int .i64 v.n, .string v.s, .slice A args.length c, .int .i64 pos] : Array Value)[j]? = some u) =>
  (show w1.cell? ⟨w.heap.size, j, none⟩ = some u from (hb.cell (p := ⟨w.heap.size, j, none⟩) (by simp; omega)).trans (((Below.refl (w.alloc (.cells #[.string op, .string name, .int .i64 v.type, .int .i64 v.n, .string v.s, .slice A args.length c, .int .i64 pos] 26)).heap.size _).alloc (Nat.le_refl _) _).cell (p := ⟨w.heap.size, j, none⟩) (by simp) |>.trans (by rw [cell_of_row _ _ _ _ _ _ (heap_alloc_new w _)]; exact hu))))
 have TC : Calls Tryz.prog 45 #[.agg #[.string op, .string name, .int .i64 v.type, .int .i64 v.n, .string v.s, .slice A args.length c, .int .i64 pos]] _ _ := check_any (.mk op name v A c args pos) _ HT.out.lev HT.out.words HE.out
 have T := Lib.hid TC
 have TO := Lib.hid (fun w' (hb : Below _ _ w') h => show Calls Tryz.prog 141 #[.agg #[.string op, .string name, .int .i64 v.type, .int .i64 v.n, .string v.s, .slice A args.length c, .int .i64 pos], .slice C p q] w' _ from kof_any _ (.mk op name v A c args pos) (Nat.le_refl _) C p q cols w' (HT.out.keep hb).lev (HT.out.keep hb).ops (HCo.out.keep hb) (HE.out.keep hb) h)
 have ES := Lib.hid (show typeOf cols (.mk op name v A c args pos) = _ from rfl)
 show Calls Tryz.prog 73 #[.agg #[.string op, .string name, .int .i64 v.type, .int .i64 v.n, .string v.s, .slice A args.length c, .int .i64 pos], .slice C p q] w _
 have EN := Lib.hid (fun h => checkErr_nodes (e := .mk op name v A c args pos) h)
 generalize args.length = n at HB HV HE HT HCo CE T TO TC ⊢
 have EC := Lib.hid (show typeOf cols (.mk op name v A c args pos) = if checkErr (.mk op name v A c args pos) ≠ 0 then ⟨0, checkErr (.mk op name v A c args pos), 0⟩ else if schemaErr cols ≠ 0 then ⟨0, schemaErr cols, 0⟩ else ofE cols (.mk op name v A c args pos) from rfl)
 generalize checkErr (.mk op name v A c args pos) = k at T EC EN
 generalize ofE cols (.mk op name v A c args pos) = r at TO EC
 clear TC hT hC he hs hb0 ho ES
 go_enter Tryz.func73, Tryz.ntmps73
 go_wp2_with fail
 generalize (w.alloc (.cells #[.string op, .string name, .int .i64 v.type, .int .i64 v.n, .string v.s, .slice A n c, .int .i64 pos] 26)).alloc (.cells #[.int .i64 0, .int .i64 0] 34) = w0 at HE HB HT HCo HV CE T TO ⊢
 refine (T.out).mono ?_
 rintro e' w1 ⟨rfl, hb1⟩
 have HB1 := Lib.hid hb1
 have HV1 := Lib.hid (HV.out.keep hb1)
 have HC1 := Lib.hid (HCo.out.keep hb1)
 clear hb1
 by_cases hk : k = 0
 ·have EN0 := Lib.hid (EN.out hk)
  subst hk
  rw [errV_zero]
  go_wp2_with fail
  refine (rschema_any cols C p q w1 HC1.out HSm.out).mono ?_
  rintro e' w2 ⟨rfl, hb2⟩
  have HB2 := Lib.hid (below_step HB1.out hb2)
  have HV2 := Lib.hid (HV1.out.keep hb2)
  clear hb2
  generalize schemaErr cols = j at EC ⊢
  by_cases hj : j = 0
  ·subst hj
   rw [errV_zero]
   have T2 := Lib.hid (TO.out w2 HB2.out EN0.out)
   have d0 := CE.out w2 HB2.out 0 _ rfl
   have d1 := CE.out w2 HB2.out 1 _ rfl
   have d2 := CE.out w2 HB2.out 2 _ rfl
   have d3 := CE.out w2 HB2.out 3 _ rfl
   have d4 := CE.out w2 HB2.out 4 _ rfl
   have d5 := CE.out w2 HB2.out 5 _ rfl
   have d6 := CE.out w2 HB2.out 6 _ rfl
   go_wp2_with fail
   refine (T2.out).mono ?_
   rintro e' w3 ⟨rfl, hb3⟩
   have HB3 := Lib.hid (below_step HB2.out hb3)
   have HV3 := Lib.hid (HV2.out.keep hb3)
   clear hb3
   obtain ⟨o0, o1, z0, z1, hlt⟩ := HV3.out.cells
   obtain ⟨rt, rh, rp⟩ := r
   unfold resV
   go_wp2_with fail
   have HO4 := own2_set HV3.out rh rp
   have HB4 := Lib.hid (below_set2 (below_step HB.out HB3.out) (Nat.le_succ _) (.int .i64 rh) (.int .i64 rp))
   generalize (w3.setCell ⟨w.heap.size + 1, 0, none⟩ (.int .i64 rh)).setCell ⟨w.heap.size + 1, 1, none⟩ (.int .i64 rp) = w4 at HO4 HB4 ⊢
   clear o0 o1 z0 z1 hlt
   obtain ⟨o0, o1, z0, z1, hlt⟩ := HO4.cells
   refine bodyPost_ret (v := .tuple #[.int .i64 rt, .agg #[.int .i64 rh, .int .i64 rp]]) (by simp [results, Tryz.results73, go_sem, o0, o1]) rfl ⟨?_, HB4.out⟩
   rw [EC.out, if_neg (by decide), if_neg (by decide)]
   rfl
  ·have HK := Lib.hid hj
   have T3 := Lib.hid (how_any j w2)
   have e9 := errV_ne hj
   rw [e9] at T3 ⊢
   clear hj e9
   obtain ⟨o0, o1, z0, z1, hlt⟩ := HV2.out.cells
   go_wp2_with fail
   refine (T3.out).mono ?_
   rintro e' w3 ⟨rfl, rfl⟩
   go_wp2_with fail
   have HO4 := own2_set HV2.out j 0
   have HB4 := Lib.hid (below_set2 (below_step HB.out HB2.out) (Nat.le_succ _) (.int .i64 j) (.int .i64 0))
   generalize (w2.setCell ⟨w.heap.size + 1, 0, none⟩ (.int .i64 j)).setCell ⟨w.heap.size + 1, 1, none⟩ (.int .i64 0) = w4 at HO4 HB4 ⊢
   clear o0 o1 z0 z1 hlt
   obtain ⟨o0, o1, z0, z1, hlt⟩ := HO4.cells
   refine bodyPost_ret (v := .tuple #[.int .i64 0, .agg #[.int .i64 j, .int .i64 0]]) (by simp [results, Tryz.results73, go_sem, o0, o1]) rfl ⟨?_, HB4.out⟩
   rw [EC.out, if_neg (by decide), if_pos HK.out]
   rfl
 ·have HK := Lib.hid hk
  have T3 := Lib.hid (how_any k w1)
  have e9 := errV_ne hk
  rw [e9] at T3 ⊢
  clear hk e9
  obtain ⟨o0, o1, z0, z1, hlt⟩ := HV1.out.cells
  go_wp2_with fail
  refine (T3.out).mono ?_
  rintro e' w3 ⟨rfl, rfl⟩
  go_wp2_with fail
  have HO4 := own2_set HV1.out k 0
  have HB4 := Lib.hid (below_set2 (below_step HB.out HB1.out) (Nat.le_succ _) (.int .i64 k) (.int .i64 0))
  generalize (w1.setCell ⟨w.heap.size + 1, 0, none⟩ (.int .i64 k)).setCell ⟨w.heap.size + 1, 1, none⟩ (.int .i64 0) = w4 at HO4 HB4 ⊢
  clear o0 o1 z0 z1 hlt
  obtain ⟨o0, o1, z0, z1, hlt⟩ := HO4.cells
  refine bodyPost_ret (v := .tuple #[.int .i64 0, .agg #[.int .i64 k, .int .i64 0]]) (by simp [results, Tryz.results73, go_sem, o0, o1]) rfl ⟨?_, HB4.out⟩
  rw [EC.out, if_pos HK.out]
  rfl
end Go.Proofs.YtpbbkpfaphjdoaaGreatDoor
namespace Go.Proofs.YtpbbkpfaphjdoaaGreatDoor
open Go.ChangeShapes Go.WideShapes Go.ChangeAt Go.RowKit
theorem ofFault_take {cols : List Col} : ∀ {l : List Ex} {k : Nat}, (∀ a ∈ l.take k, (ofE cols a).h = 0) → (ofFault cols (l.take k)).h = 0
 | [], k, _ => by simp [ofFault]
 | x :: l, 0, _ => by simp [ofFault]
 | x :: l, k + 1, h => by
  rw [List.take_succ_cons] at h ⊢
  rw [ofFault, if_neg (by rw [h x List.mem_cons_self]; decide)]
  exact ofFault_take fun a ha => h a (List.mem_cons_of_mem _ ha)
theorem arity_pos {s : ByteArray} (h : 1 ≤ arityOf s) : ¬ isVal s ∧ ¬ isCol s := by
 constructor
 ·intro hv
  rw [bytes_of hv] at h
  exact absurd h (by decide)
 ·intro hv
  rw [bytes_of hv] at h
  exact absurd h (by decide)
end Go.Proofs.YtpbbkpfaphjdoaaGreatDoor
