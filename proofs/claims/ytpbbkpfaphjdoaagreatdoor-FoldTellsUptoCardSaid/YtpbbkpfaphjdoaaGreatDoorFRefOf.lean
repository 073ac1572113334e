/- The document's answer, walked: typed and Of: the type of an expression over columns, or the fault and where. -/
import Derived.Test.YtpbbkpfaphjdoaaGreatDoorFRefCheck
import Derived.Test.YtpbbkpfaphjdoaaGreatDoorFRefRule
import Derived.Deep.QuietTactic
import Derived.BigQuiet
namespace Go.Proofs.YtpbbkpfaphjdoaaGreatDoor
open Go.ChangeShapes Go.WideShapes Go.ChangeAt Go.RowKit
def tripV (r : Res) : Value := .tuple #[.int .i64 r.t, .int .i64 r.h, .int .i64 r.p]
def TripSays (r : Res) (w : World) (e : Ending) (w' : World) : Prop := e = .returned (tripV r) ∧ Below w.heap.size w w'
theorem arity_ok {op name : ByteArray} {v : Val} {n : Nat} (h : nodeErrOf op name v n = 0) : (n : Int) = arityOf op := (nodeErr_len h).1
theorem rule_eight {op : ByteArray} {ts : List Int} (h1 : (ts.length : Int) = arityOf op) (h2 : 1 ≤ arityOf op) (h3 : ∀ t ∈ ts, 1 ≤ t ∧ t ≤ 3) : ruleErr op ts = 0 ∨ ruleErr op ts = 8 := by
 unfold ruleErr
 rw [if_neg (by
  rintro (h | h)
  ·rw [isOp_arity] at h; exact absurd h2 (by simpa using h)
  ·obtain ⟨x, hx, hn⟩ := List.any_eq_true.1 h
   have := h3 x hx
   unfold noType at hn
   simp at hn
   omega), if_neg (by simp [h1])]
 split
 ·exact Or.inl rfl
 ·exact Or.inr rfl
theorem firstErr_allR {f : Nat → Int} : ∀ {n : Nat}, firstErr f n = 0 → ∀ k, k < n → f k = 0
 | 0, _, k, h => by omega
 | n + 1, h, k, hk => by
  by_cases h0 : firstErr f n = 0
  ·by_cases hn : f n = 0
   ·by_cases e : k = n
    ·rw [e]; exact hn
    ·exact firstErr_allR h0 k (by omega)
   ·exact absurd ((firstErr_hit h0 hn (n + 1) (by omega)).symm.trans h) hn
  ·have : ∀ m, firstErr f (m + 1) = if firstErr f m = 0 then f m else firstErr f m := fun m => by rw [firstErr]
   rw [this, if_neg h0] at h; exact absurd h h0
theorem schema_typeR {cols : List Col} (h : schemaErr cols = 0) {k : Nat} {c : Col} (hk : cols[k]? = some c) : 1 ≤ c.type ∧ c.type ≤ 3 := by
 unfold schemaErr at h
 split at h
 ·omega
 ·split at h
  ·omega
  ·have := firstErr_allR h k (List.getElem?_eq_some_iff.1 hk).1
   unfold schemaAt at this
   rw [hk] at this
   revert this
   simp only
   intro this
   by_cases hc : 1 ≤ c.type ∧ c.type ≤ 3
   ·exact hc
   ·exfalso
    revert this
    repeat' split
    all_goals first | omega | (intro h; simp_all)
theorem vcheck_typeR {v : Val} (h : vcheck v = 0) : 1 ≤ v.type ∧ v.type ≤ 3 := by
 unfold vcheck at h
 by_cases h1 : v.type = 1
 ·omega
 by_cases h2 : v.type = 2
 ·omega
 by_cases h3 : v.type = 3
 ·omega
 rw [if_neg h1, if_neg h2, if_neg h3] at h
 omega
theorem type_okR {cols : List Col} (hs : schemaErr cols = 0) : ∀ (m : Nat) (e : Ex), SizeOf.sizeOf e ≤ m → nodesErr e = 0 → (ofE cols e).h = 0 → 1 ≤ (ofE cols e).t ∧ (ofE cols e).t ≤ 3
 | 0, e, hm, _, _ => by cases e; simp at hm
 | m + 1, .mk op name v A c args pos, hm, hn, hh => by
  obtain ⟨p1, p2, p3⟩ := ofE_parts hh
  obtain ⟨n1, n2⟩ := nodesErr_parts hn
  rw [p2]
  by_cases hv : isVal op
  ·unfold ofNode
   rw [if_pos hv]
   exact vcheck_typeR (nodeErr_val n1 hv)
  by_cases hc : isCol op
  ·unfold ofNode at p3 ⊢
   rw [if_neg hv, if_pos hc] at p3 ⊢
   by_cases hf : findCol cols name < 0
   ·rw [if_pos hf] at p3; exact absurd (show (5 : Int) = 0 from p3) (by omega)
   ·rw [if_neg hf]
    obtain ⟨k, x, hk, hx, _⟩ := findCol_get (Int.not_lt.1 hf)
    unfold colType
    rw [hk, Int.toNat_natCast, hx]
    exact schema_typeR hs hx
  obtain ⟨q1, q2⟩ := ofNode_op hv hc p3
  obtain ⟨r1, r2, r3⟩ := ruleErr_parts q1
  rw [q2]
  show 1 ≤ typeGrp (grp op) (ofTypes cols args) ∧ typeGrp (grp op) (ofTypes cols args) ≤ 3
  by_cases hg : grp op = 3
  ·rw [hg]
   show 1 ≤ (ofTypes cols args).getD 1 0 ∧ (ofTypes cols args).getD 1 0 ≤ 3
   have hany : ∀ x ∈ ofTypes cols args, 1 ≤ x ∧ x ≤ 3 := by
    intro x hx
    rw [ofTypes_map] at hx
    obtain ⟨a, ha, rfl⟩ := List.mem_map.1 hx
    exact type_okR hs m a (by have := ex_lt (e := .mk op name v A c args pos) ha; omega) (nodesErrs_all n2 a ha) (p1 a ha)
   have hl : 1 < (ofTypes cols args).length := by
    have h3 : isIf op := by
     unfold grp at hg
     split at hg
     ·omega
     ·split at hg
      ·omega
      ·split at hg
       ·omega
       ·split at hg
        ·assumption
        ·omega
    have := (if_grp h3).2
    omega
   rw [List.getD_eq_getElem?_getD, List.getElem?_eq_getElem hl]
   exact hany _ (List.getElem_mem hl)
  ·unfold typeGrp
   split
   ·omega
   ·omega
   ·omega
   ·rename_i h; exact absurd h hg
   ·omega
def RTypedAt (m : Nat) : Prop := ∀ e : Ex, SizeOf.sizeOf e ≤ m → ∀ (C : Option Addr) (p q : Nat) (cols : List Col) (w : World), SeesCols w C p q cols → SeesEx w e → nodesErr e = 0 → schemaErr cols = 0 →
  Calls Tryz.prog 71 #[exV e, .slice C p q] w (TripSays (ofE cols e) w)
set_option maxHeartbeats 2000000 in
set_option maxRecDepth 100000 in
theorem rtyped_step (m : Nat) (ih : RTypedAt m) (op name : ByteArray) (v : Val) (A : Option Addr) (c : Nat) (args : List Ex) (pos : Int) (hm : SizeOf.sizeOf (Ex.mk op name v A c args pos) ≤ m + 1)
  (C : Option Addr) (p q : Nat) (cols : List Col) (w : World) (hC : SeesCols w C p q cols) (he : SeesEx w (.mk op name v A c args pos)) (hne : nodesErr (.mk op name v A c args pos) = 0) (hsc : schemaErr cols = 0) :
  Calls Tryz.prog 71 #[exV (.mk op name v A c args pos), .slice C p q] w (TripSays (ofE cols (.mk op name v A c args pos)) w) := by
 have IH := Lib.hid ih
 have HSC := Lib.hid hsc
 have HM := Lib.hid (fun a (ha : a ∈ args) => show SizeOf.sizeOf a ≤ m by have := ex_lt (e := .mk op name v A c args pos) ha; omega)
 have hb0 : Below w.heap.size w (w.alloc (.cells #[.string op, .string name, .int .i64 v.type, .int .i64 v.n, .string v.s, .slice A args.length c, .int .i64 pos] 26)) := belowNew _ _
 have HE := Lib.hid (he.keep hb0)
 have HCo := Lib.hid (hC.keep hb0)
 have HB := Lib.hid hb0
 have HNE := Lib.hid (nodesErr_parts hne)
 have hn3 := (nodeErr_len HNE.out.1).2.2
 have HAR := Lib.hid (arity_ok HNE.out.1)
 have hcap : args.length ≤ c := he.parts.1.2.1
 have hmax : c ≤ maxLen := he.parts.1.2.2.1
 unfold maxLen at hmax
 have hq : p ≤ q := hC.2.2.1
 have hqm : q ≤ maxLen := hC.2.2.2.1
 unfold maxLen at hqm
 have HS := Lib.hid (ofE_mk cols op name v A c args pos)
 have CE := Lib.hid (fun (w1 : World) (hb : Below (w.alloc (.cells #[.string op, .string name, .int .i64 v.type, .int .i64 v.n, .string v.s, .slice A args.length c, .int .i64 pos] 26)).heap.size (w.alloc (.cells #[.string op, .string name, .int .i64 v.type, .int .i64 v.n, .string v.s, .slice A args.length c, .int .i64 pos] 26)) w1) (j : Nat) (u : Value) (hu : (#[.string op, .string name, .int .i64 v.type, .int .i64 v.n, .string v.s, .slice A args.length c, .int .i64 pos] : Array Value)[j]? = some u) => (hb.cell (p := ⟨w.heap.size, j, none⟩) (by simp)).trans (show (w.alloc (.cells #[.string op, .string name, .int .i64 v.type, .int .i64 v.n, .string v.s, .slice A args.length c, .int .i64 pos] 26)).cell? ⟨w.heap.size, j, none⟩ = some u by rw [cell_of_row _ _ _ _ _ _ (heap_alloc_new w _)]; exact hu))
 show Calls Tryz.prog 71 #[.agg #[.string op, .string name, .int .i64 v.type, .int .i64 v.n, .string v.s, .slice A args.length c, .int .i64 pos], .slice C p q] w _
 clear ih hm hC he hne hb0 hsc
 generalize hn : args.length = n at hcap HE HB HCo HNE HAR hn3 CE ⊢
 have HLn := Lib.hid hn
 clear hn
 generalize hw0 : w.alloc (.cells #[.string op, .string name, .int .i64 v.type, .int .i64 v.n, .string v.s, .slice A n c, .int .i64 pos] 26) = w0 at HE HB HCo CE
 have HW0 := Lib.hid hw0
 clear hw0
 go_enter Tryz.func71, Tryz.ntmps71
 go_wp2_with (first | rw [HW0.out])
 go_loopw [7, 8] (fun ts i wr => ∃ k : Nat, k ≤ n ∧ i = .int .i64 k ∧ wr.ownsRow w0.heap.size 3 1 ts k (intCells (ofTypes cols (args.take k))) ∧ Below w0.heap.size w0 wr ∧ (∀ a ∈ args.take k, (ofE cols a).h = 0)) (fun _ i _ => n - (intOf i).toNat)
 case atStart => exact ⟨0, by omega, rfl, World.ownsRow_nil _ _ _ _, Below.refl _ _, by simp⟩
 case round =>
  obtain ⟨k, hk, rfl, hown, hb, hno⟩ := hrel
  have HN := Lib.hid hno
  have HBR := Lib.hid hb
  have HSZ := Lib.hid hb.size
  have d5 := CE.out wr hb 5 _ rfl
  clear hno
  by_cases hlk : k < n
  ·obtain ⟨g, o, x, (rfl : A = _), hg, hx, hsx, c0, c1, c2, c3, c4, c5, c6⟩ := (HE.out.keep hb).at_ (k := k) (by show k < args.length; rw [HLn.out]; exact hlk)
   have HX := Lib.hid (show args[k]? = some x from hx)
   have T := Lib.hid (IH.out x (HM.out x (List.mem_of_getElem? HX.out)) C p q cols wr (HCo.out.keep hb) hsx (nodesErrs_all HNE.out.2 x (List.mem_of_getElem? HX.out)) HSC.out)
   have HOW := Lib.hid hown
   unfold exV at T
   have EN := Lib.hid (ofTypes_next (cols := cols) HX.out)
   have EH := Lib.hid (fun h => ofFault_hit (cols := cols) (ofFault_take HN.out) HX.out h)
   have EX := Lib.hid (show (ofE cols x).h = 0 → ∀ y ∈ args.take (k + 1), (ofE cols y).h = 0 by
    intro h0 y hy
    rw [List.take_add_one, HX.out] at hy
    rcases List.mem_append.1 hy with hy | hy
    ·exact HN.out y hy
    ·simp at hy; subst hy; exact h0)
   clear hb hx hsx hown
   generalize ofE cols x = r at T EN EH EX
   obtain ⟨rt, rh, rp⟩ := r
   by_cases hrh : rh = 0
   ·have EX2 := Lib.hid (EX.out hrh)
    subst hrh
    clear EX EH
    go_wp2_with fail
    refine (T.out).mono ?_
    rintro e' w2 ⟨rfl, hb1⟩
    have hown1 := own_keep HOW.out hb1
    have hb2 := (HBR.out).trans (hb1.mono HSZ.out)
    clear hb1
    unfold tripV
    go_wp2_with (first
     | (at_builtin; refine wpList_append_one intSlice rfl _ _ rfl rfl rfl hown1 hb2 (Nat.le_refl _) rfl (by intro u hu; simp at hu; subst hu; rfl) (by omega) ?_; intro v1 w4 hown2 hb3 _))
    go_roundw
    case rel => exact ⟨k + 1, by omega, by go_num, by rw [EN.out]; exact hown2, hb3, EX2.out⟩
    case measure => simp [intOf]; omega
   ·have E := Lib.hid (EH.out hrh)
    have e1 : (rh != 0) = true := by simpa using hrh
    have HR0 := Lib.hid hrh
    clear EX EH hrh
    go_wp2_with fail
    refine (T.out).mono ?_
    rintro e' w2 ⟨rfl, hb1⟩
    have HB2 := Lib.hid ((HBR.out).trans (hb1.mono HSZ.out))
    clear hb1
    unfold tripV
    go_wp2_with fail
    go_ret3
    exact ⟨by rw [HS.out, if_pos (by rw [E.out]; exact HR0.out), E.out]; rfl, below_step HB.out HB2.out⟩
  ·obtain rfl : n = k := by omega
   have htk : args.take n = args := List.take_of_length_le (by rw [HLn.out]; exact Nat.le_refl _)
   rw [htk] at hown
   have HNA := Lib.hid (show ∀ a ∈ args, (ofE cols a).h = 0 by have := HN.out; rwa [htk] at this)
   have HF := Lib.hid (show (ofFault cols args).h = 0 by have := ofFault_take HN.out; rwa [htk] at this)
   have HS2 := Lib.hid (show ofE cols (.mk op name v A c args pos) = ofNode cols op name v (ofTypes cols args) pos by rw [HS.out, if_neg (by rw [HF.out]; decide)])
   obtain ⟨A2, c2, rfl, hs2⟩ := Sees.of_own hown
   have HSe := Lib.hid hs2
   have d0 := CE.out wr hb 0 _ rfl
   have d1 := CE.out wr hb 1 _ rfl
   have d2 := CE.out wr hb 2 _ rfl
   have d6 := CE.out wr hb 6 _ rfl
   have HC6 := Lib.hid (fun w' (hb' : Below wr.heap.size wr w') => CE.out w' (HBR.out.trans (hb'.mono HSZ.out)) 6 _ rfl)
   clear hb hown htk hs2
   by_cases hv : isVal op
   ·have E := Lib.hid (show ofNode cols op name v (ofTypes cols args) pos = ⟨v.type, 0, 0⟩ by unfold ofNode; rw [if_pos hv])
    have e1 := str_is hv
    clear hv
    go_wp2_with fail
    go_ret3
    exact ⟨by rw [HS2.out, E.out]; rfl, below_step HB.out HBR.out⟩
   ·have e1 := str_ne hv
    by_cases hc : isCol op
    ·have e2 := str_is hc
     have T := Lib.hid (rfindR_any cols name C p q wr (HCo.out.keep HBR.out))
     by_cases hf : findCol cols name < 0
     ·have E := Lib.hid (show ofNode cols op name v (ofTypes cols args) pos = ⟨0, 5, pos⟩ by unfold ofNode; rw [if_neg hv, if_pos hc, if_pos hf])
      generalize findCol cols name = fc at T hf
      have qf : decide (fc < 0) = true := decide_eq_true hf
      clear hv hc hf
      go_wp2_with fail
      refine (T.out).mono ?_
      rintro e' w2 ⟨rfl, rfl⟩
      go_wp2_with fail
      go_quiet (fail)
      have HBZ := Lib.hid (below_drewN HBR.out nq)
      generalize wr.drewN nq = wz at HBZ ⊢
      go_wp2_with fail
      go_ret3
      exact ⟨by rw [HS2.out, E.out]; rfl, below_step HB.out HBZ.out⟩
     ·obtain ⟨j, x, hj, hx, hxn⟩ := findCol_get (Int.not_lt.1 hf)
      have E := Lib.hid (show ofNode cols op name v (ofTypes cols args) pos = ⟨x.type, 0, 0⟩ by
       unfold ofNode colType; rw [if_neg hv, if_pos hc, if_neg hf, hj]; simp [hx])
      rw [hj] at T
      have hjp : j < p := by have h1 := (List.getElem?_eq_some_iff.1 hx).1; have h2 := HCo.out.1; omega
      obtain ⟨g2, ob, x2, rfl, hg2, hx2, k0, k1⟩ := (HCo.out.keep HBR.out).at_ hjp
      obtain rfl : x2 = x := by have := hx2.symm.trans hx; injection this
      clear hv hc hf hj hx hxn hx2
      go_wp2_with fail
      refine (T.out).mono ?_
      rintro e' w2 ⟨rfl, rfl⟩
      go_wp2_with fail
      go_ret3
      exact ⟨by rw [HS2.out, E.out]; rfl, below_step HB.out HBR.out⟩
    ·have e2 := str_ne hc
     have T := Lib.hid (rrule_any op (ofTypes cols args) A2 n c2 wr HSe.out)
     have EN := Lib.hid (show ofNode cols op name v (ofTypes cols args) pos = if ruleErr op (ofTypes cols args) ≠ 0 then ⟨0, 8, pos⟩ else ⟨ruleTy op (ofTypes cols args), 0, 0⟩ by unfold ofNode; rw [if_neg hv, if_neg hc])
     have H08 := Lib.hid (rule_eight (op := op) (ts := ofTypes cols args) (by rw [ofTypes_length, HLn.out]; exact HAR.out) (by
      have h0 := HNE.out.1
      have h1 := (nodeErr_len h0).2.1
      by_cases h2 : arityOf op = 0
      ·exfalso
       unfold arityOf at h2
       split at h2
       ·rename_i h3
        rcases h3 with h3 | h3
        ·exact hc h3
        ·exact hv h3
       ·split at h2
        ·omega
        ·split at h2
         ·omega
         ·unfold signAr at h2
          split at h2 <;> omega
      ·omega) (by
      intro t ht
      rw [ofTypes_map] at ht
      obtain ⟨a, ha, rfl⟩ := List.mem_map.1 ht
      exact type_okR HSC.out _ a (Nat.le_refl _) (nodesErrs_all HNE.out.2 a ha) (HNA.out a ha)))
     clear hv hc
     generalize ruleTy op (ofTypes cols args) = rt at T EN
     generalize ruleErr op (ofTypes cols args) = rk at T EN H08
     by_cases hr : rk = 0
     ·have E := Lib.hid (show ofNode cols op name v (ofTypes cols args) pos = ⟨rt, 0, 0⟩ by rw [EN.out, if_neg (by simp [hr])])
      subst hr
      go_wp2_with fail
      refine (T.out).mono ?_
      rintro e' w2 ⟨rfl, hb1⟩
      have HB2 := Lib.hid ((HBR.out).trans (hb1.mono HSZ.out))
      clear hb1 d0 d1 d2 d6
      go_wp2_with fail
      go_ret3
      exact ⟨by rw [HS2.out, E.out]; rfl, below_step HB.out HB2.out⟩
     ·have E := Lib.hid (show ofNode cols op name v (ofTypes cols args) pos = ⟨0, 8, pos⟩ by rw [EN.out, if_pos hr])
      obtain rfl : rk = 8 := by
       rcases H08.out with h | h
       ·exact absurd h hr
       ·exact h
      clear hr H08
      go_wp2_with fail
      refine (T.out).mono ?_
      rintro e' w2 ⟨rfl, hb1⟩
      have d6' := HC6.out w2 hb1
      have HB2 := Lib.hid ((HBR.out).trans (hb1.mono HSZ.out))
      clear hb1 d0 d1 d2 d6
      go_wp2_with fail
      go_quiet (fail)
      have HBZ := Lib.hid (below_drewN HB2.out nq)
      generalize w2.drewN nq = wz at HBZ ⊢
      go_wp2_with fail
      go_ret3
      exact ⟨by rw [HS2.out, E.out]; rfl, below_step HB.out HBZ.out⟩
theorem rtyped_any : ∀ m : Nat, RTypedAt m
 | 0 => fun e hm _ _ _ _ _ _ _ _ _ => by cases e; simp at hm
 | m + 1 => fun e hm C p q cols w hC he hne hsc => by
  obtain ⟨op, name, v, A, c, args, pos⟩ := e
  exact rtyped_step m (rtyped_any m) op name v A c args pos hm C p q cols w hC he hne hsc
set_option maxHeartbeats 1000000 in
set_option maxRecDepth 100000 in
theorem rof_any (e : Ex) (C : Option Addr) (p q : Nat) (cols : List Col) (w : World) (hC : SeesCols w C p q cols) (hs : ∀ x ∈ cols, x.name.size ≤ maxLen) (he : SeesEx w e) (hN : exN e ≤ 1048576) :
  Calls Tryz.prog 18 #[exV e, .slice C p q] w (TripSays (typeOf cols e) w) := by
 have ET := Lib.hid (show typeOf cols e = if checkErr e ≠ 0 then ⟨0, checkErr e, 0⟩ else if schemaErr cols ≠ 0 then ⟨0, schemaErr cols, 0⟩ else ofE cols e from rfl)
 have EN := Lib.hid (fun h => checkErr_nodes (e := e) h)
 obtain ⟨op, name, v, A, c, args, pos⟩ := e
 have hb0 : Below w.heap.size w (w.alloc (.cells #[.string op, .string name, .int .i64 v.type, .int .i64 v.n, .string v.s, .slice A args.length c, .int .i64 pos] 26)) := belowNew _ _
 have HE := Lib.hid (he.keep hb0)
 have HCo := Lib.hid (hC.keep hb0)
 have HB := Lib.hid hb0
 have HSm := Lib.hid hs
 have CE := Lib.hid (fun (w1 : World) (hb : Below (w.alloc (.cells #[.string op, .string name, .int .i64 v.type, .int .i64 v.n, .string v.s, .slice A args.length c, .int .i64 pos] 26)).heap.size (w.alloc (.cells #[.string op, .string name, .int .i64 v.type, .int .i64 v.n, .string v.s, .slice A args.length c, .int .i64 pos] 26)) w1) (j : Nat) (u : Value) (hu : (#[.string op, .string name, .int .i64 v.type, .int .i64 v.n, .string v.s, .slice A args.length c, .int .i64 pos] : Array Value)[j]? = some u) => (hb.cell (p := ⟨w.heap.size, j, none⟩) (by simp)).trans (show (w.alloc (.cells #[.string op, .string name, .int .i64 v.type, .int .i64 v.n, .string v.s, .slice A args.length c, .int .i64 pos] 26)).cell? ⟨w.heap.size, j, none⟩ = some u by rw [cell_of_row _ _ _ _ _ _ (heap_alloc_new w _)]; exact hu))
 have T0 : Calls Tryz.prog 22 #[.agg #[.string op, .string name, .int .i64 v.type, .int .i64 v.n, .string v.s, .slice A args.length c, .int .i64 pos]] (w.alloc (.cells #[.string op, .string name, .int .i64 v.type, .int .i64 v.n, .string v.s, .slice A args.length c, .int .i64 pos] 26)) _ := rcheck_any (.mk op name v A c args pos) _ HE.out hN
 have TC := Lib.hid T0
 have TO := Lib.hid (fun w' (hb : Below (w.alloc (.cells #[.string op, .string name, .int .i64 v.type, .int .i64 v.n, .string v.s, .slice A args.length c, .int .i64 pos] 26)).heap.size (w.alloc (.cells #[.string op, .string name, .int .i64 v.type, .int .i64 v.n, .string v.s, .slice A args.length c, .int .i64 pos] 26)) w') h1 h2 => show Calls Tryz.prog 71 #[.agg #[.string op, .string name, .int .i64 v.type, .int .i64 v.n, .string v.s, .slice A args.length c, .int .i64 pos], .slice C p q] w' _ from rtyped_any _ (.mk op name v A c args pos) (Nat.le_refl _) C p q cols w' (HCo.out.keep hb) (HE.out.keep hb) h1 h2)
 clear T0 he hb0 hN hC hs
 generalize checkErr (.mk op name v A c args pos) = ck at TC ET EN
 generalize ofE cols (.mk op name v A c args pos) = r at TO ET
 obtain ⟨rt, rh, rp⟩ := r
 show Calls Tryz.prog 18 #[.agg #[.string op, .string name, .int .i64 v.type, .int .i64 v.n, .string v.s, .slice A args.length c, .int .i64 pos], .slice C p q] w _
 by_cases hk : ck = 0
 ·have HK := Lib.hid (EN.out hk)
  subst hk
  go_enter Tryz.func18, Tryz.ntmps18
  go_wp2_with fail
  refine (TC.out).mono ?_
  rintro e' w1 ⟨rfl, hb1⟩
  have HB1 := Lib.hid hb1
  have TS := Lib.hid (rschemaR_any cols C p q w1 (HCo.out.keep hb1) HSm.out)
  have d0 := CE.out w1 hb1 0 _ rfl
  have d1 := CE.out w1 hb1 1 _ rfl
  have d2 := CE.out w1 hb1 2 _ rfl
  have d3 := CE.out w1 hb1 3 _ rfl
  have d4 := CE.out w1 hb1 4 _ rfl
  have d5 := CE.out w1 hb1 5 _ rfl
  have d6 := CE.out w1 hb1 6 _ rfl
  clear hb1
  by_cases hj : schemaErr cols = 0
  ·have T2 := Lib.hid (TO.out w1 HB1.out HK.out hj)
   have E := Lib.hid (show typeOf cols (.mk op name v A c args pos) = ⟨rt, rh, rp⟩ by rw [ET.out, if_neg (by simp), if_neg (by simp [hj])])
   rw [hj] at TS
   clear hj
   go_wp2_with fail
   refine (TS.out).mono ?_
   rintro e' w' ⟨rfl, rfl⟩
   go_wp2_with fail
   refine (T2.out).mono ?_
   rintro e' w2 ⟨rfl, hb2⟩
   have HB2 := Lib.hid (below_step HB1.out hb2)
   clear hb2
   unfold tripV
   go_wp2_with fail
   go_ret3
   exact ⟨by rw [E.out]; rfl, below_step HB.out HB2.out⟩
  ·have E := Lib.hid (show typeOf cols (.mk op name v A c args pos) = ⟨0, schemaErr cols, 0⟩ by rw [ET.out, if_neg (by simp), if_pos hj])
   generalize schemaErr cols = sj at TS E hj
   have q : (sj != 0) = true := by simpa using hj
   clear hj
   go_wp2_with fail
   refine (TS.out).mono ?_
   rintro e' w' ⟨rfl, rfl⟩
   go_wp2_with fail
   go_ret3
   exact ⟨by rw [E.out]; rfl, below_step HB.out HB1.out⟩
 ·have E := Lib.hid (show typeOf cols (.mk op name v A c args pos) = ⟨0, ck, 0⟩ by rw [ET.out, if_pos hk])
  have q1 : (ck == 0) = false := by simpa using hk
  have q2 : (ck != 0) = true := by simpa using hk
  clear hk
  go_enter Tryz.func18, Tryz.ntmps18
  go_wp2_with fail
  refine (TC.out).mono ?_
  rintro e' w1 ⟨rfl, hb1⟩
  have HB1 := Lib.hid hb1
  clear hb1
  go_wp2_with fail
  go_ret3
  exact ⟨by rw [E.out]; rfl, below_step HB.out HB1.out⟩
end Go.Proofs.YtpbbkpfaphjdoaaGreatDoor
