/- code.of, walked: what an expression is compiled to. -/
import Derived.Test.YthmbafkedgahaaaDoorCodeLib
import Derived.Deep.RegionHeld3
import Derived.Deep.AppendLies
namespace Go.Proofs.YthmbafkedgahaaaDoor
open Go.ChangeShapes Go.WideShapes Go.ChangeAt Go.RowKit

theorem box7' {w : World} {b : Nat} {x0 x1 x2 x3 x4 x5 x6 : Value} {T : TypeId} (h : w.heap[b]? = some (.cells #[x0, x1, x2, x3, x4, x5, x6] T (0, 0))) :
    w.cell? ⟨b, 0, none⟩ = some x0 ∧ w.cell? ⟨b, 1, none⟩ = some x1 ∧ w.cell? ⟨b, 2, none⟩ = some x2 ∧ w.cell? ⟨b, 3, none⟩ = some x3 ∧ w.cell? ⟨b, 4, none⟩ = some x4 ∧ w.cell? ⟨b, 5, none⟩ = some x5 ∧ w.cell? ⟨b, 6, none⟩ = some x6 := by
  refine ⟨?_, ?_, ?_, ?_, ?_, ?_, ?_⟩ <;> rw [cell_of_row _ _ _ _ _ _ h] <;> rfl
theorem step_append_src {P : Program} {t e : TypeId} {z : Value} {size bytes : Nat} (hS : SliceTy P t e z size bytes)
    {ops : Array Oper} {o : Oper} {a : Act} {K : Act → World → Prop} {Q : Exit → Act → World → Prop} {E : Prop} (hgd : o.guard = none) (s x : Operand)
    (ho : o.op = .call { callee := .builtin .append, args := #[s, x], argTypes := #[t, t] })
    {B : Nat} {wr : World} {v : Value} {n : Nat} {xs ys : List Value} {ad : Addr} {m c : Nat} (hm0 : 0 < m)
    (hs : a.eval s = v) (hx : a.eval x = .slice (some ad) m c) (hys : ys.length = m * size) (hcells : ∀ j u, ys[j]? = some u → wr.cell? (ad.add j) = some u)
    (hown : wr.ownsRow B e size v n xs) (hB : B ≤ wr.heap.size) (h1 : ∀ u ∈ ys, u.oneCell' = true)
    (hn : (n + m) * bytes ≤ 140737488355328)
    (h : ∀ g cap w', w'.ownsRow B e size (.slice (some ⟨g, 0, none⟩) (n + m) cap) (n + m) (xs ++ ys) → wr.grownBy w' v.ownBlock → (v.ownBlock = some g ∨ g = wr.heap.size) → K (a.put o.dst (.slice (some ⟨g, 0, none⟩) (n + m) cap)) w') :
    if Region.wanted o (yielded ops a.tmps) = true then Oper.wp P o a wr K Q else E := by
  obtain ⟨ht, h2, h3, hzs, i, hi, hz, hsz, hby⟩ := hS
  have hm : n + m ≤ (n + m) * bytes := Nat.le_mul_of_pos_right _ h3
  refine step_append_lies _ hgd s x t ho B e i z size bytes ht hi hz hsz hby hzs h2 v n xs hs hown ad m c ys hx hys hcells h1 hm0 (by unfold maxLen; omega) hn hB wr.heap.size rfl ?_
  intro g cap w' h1' h2' h3' _
  exact h g cap w' h1' h2' h3'
theorem own_cells {w : World} {B e size n g c : Nat} {xs : List Value} (h : w.ownsRow B e size (.slice (some ⟨g, 0, none⟩) n c) n xs) (j : Nat) (u : Value) (hu : xs[j]? = some u) : w.cell? ((⟨g, 0, none⟩ : Addr).add j) = some u := by
  obtain ⟨A, c', e1, hs⟩ := Sees.of_own h
  injection e1 with e2 e3 e4
  subst e2
  by_cases hn : 0 < n
  · obtain ⟨g', o', e5, hg, hc⟩ := hs.2.2.2.2 hn
    injection e5 with e5
    injection e5 with e6 e7
    subst e6 e7
    rw [addr_addN]; exact hc j u hu
  · have h0 := hs.1
    obtain rfl : n = 0 := by omega
    rw [Nat.zero_mul] at h0
    rw [List.length_eq_zero_iff.1 h0] at hu
    cases hu
theorem opsB_cells {w : World} {b o : Nat} (h : ∀ (j : Nat) (u : Value), (strCells opsB)[j]? = some u → w.cell? ⟨b, o + j, none⟩ = some u) (j : Nat) (hj : j < opsB.length) : w.cell? ⟨b, o + j, none⟩ = some (.string (opsB.getD j ByteArray.empty)) := by
  refine h j _ ?_
  unfold strCells
  rw [List.getElem?_map, List.getElem?_eq_getElem hj, List.getD_eq_getElem?_getD, List.getElem?_eq_getElem hj]; rfl
theorem belowDrew (w : World) : Below w.heap.size w w.drew := (Below.refl _ _).drew
/-- Fragments that were compiled, and the row of them. -/
structure FragAt (w : World) (B : Nat) (v : Value) (hs : List CodeH) : Prop where
  row : w.ownsRow B 31 1 v hs.length (hs.map codeHV)
  see : ∀ h ∈ hs, SeesCode w h.A h.n h.c h.l ∧ 0 < h.n
  far : ∀ h ∈ hs, ∀ ad, h.A = some ad → v.ownBlock ≠ some ad.block ∧ ad.block < w.heap.size
theorem FragAt.keep {w w' : World} {B : Nat} {v : Value} {hs : List CodeH} (h : FragAt w B v hs) (hb : Below w.heap.size w w') : FragAt w' B v hs :=
  ⟨own_keep h.row hb, fun x hx => ⟨(h.see x hx).1.keep hb, (h.see x hx).2⟩, fun x hx ad e => ⟨(h.far x hx ad e).1, Nat.lt_of_lt_of_le (h.far x hx ad e).2 hb.size⟩⟩
theorem frag_push {w w1 w' : World} {B g n cap g1 c1 : Nat} {v : Value} {hs : List CodeH} {l : List Ins} (h : FragAt w B v hs) (hl0 : 0 < l.length) (hS : SeesCode w (some ⟨g1, 0, none⟩) l.length c1 l) (hfar : v.ownBlock ≠ some g1) (hlt : g1 < w.heap.size) (hb : Below w.heap.size w w1)
    (hown : w'.ownsRow B 31 1 (.slice (some ⟨g, 0, none⟩) n cap) n (hs.map codeHV ++ (#[Value.slice (some ⟨g1, 0, none⟩) l.length c1] : Array Value).toList)) (hn : n = hs.length + 1) (hg : w1.grownBy w' v.ownBlock) (hat : v.ownBlock = some g ∨ w.heap.size ≤ g) (hB : B ≤ w.heap.size) :
    FragAt w' B (.slice (some ⟨g, 0, none⟩) n cap) (hs ++ [⟨some ⟨g1, 0, none⟩, l.length, c1, l⟩]) ∧ Below B w w' := by
  subst hn
  have hy : Only (fun k => v.ownBlock = some k) w w' := (Only.of_below hb).trans (Only.of_grown hg (fun k hk => hk.symm))
  have hsee : ∀ x : CodeH, SeesCode w x.A x.n x.c x.l → (∀ ad, x.A = some ad → v.ownBlock ≠ some ad.block) → SeesCode w' x.A x.n x.c x.l := fun x hx hf => ⟨hx.1, hy.sees hx.2 (fun ad e hs => hf ad e hs)⟩
  refine ⟨⟨?_, ?_, ?_⟩, hy.below hB (fun k hk => (h.row.lt k hk).1)⟩
  · rw [List.length_append, List.map_append]
    exact hown
  · intro x hx
    rcases List.mem_append.1 hx with hx | hx
    · exact ⟨hsee x (h.see x hx).1 (fun ad e => (h.far x hx ad e).1), (h.see x hx).2⟩
    · rw [List.mem_singleton.1 hx]
      exact ⟨hsee ⟨some ⟨g1, 0, none⟩, l.length, c1, l⟩ hS (fun ad e => by injection e with e; rw [← e]; exact hfar), hl0⟩
  · intro x hx ad e
    have key : v.ownBlock ≠ some ad.block ∧ ad.block < w.heap.size := by
      rcases List.mem_append.1 hx with hx | hx
      · exact h.far x hx ad e
      · rw [List.mem_singleton.1 hx] at e
        injection e with e
        rw [← e]; exact ⟨hfar, hlt⟩
    refine ⟨fun e2 => ?_, Nat.lt_of_lt_of_le key.2 hy.size⟩
    injection e2 with e2
    have e2 : g = ad.block := e2
    rcases hat with e3 | e3
    · rw [e2] at e3; exact key.1 e3
    · have := key.2; omega
theorem FragAt.at_ {w : World} {B k : Nat} {v : Value} {hs : List CodeH} (h : FragAt w B v hs) (hk : k < hs.length) : ∃ g c x, v = .slice (some ⟨g, 0, none⟩) hs.length c ∧ g < w.heap.size ∧ hs[k]? = some x ∧ w.cell? ⟨g, k, none⟩ = some (.slice x.A x.n x.c) ∧ SeesCode w x.A x.n x.c x.l ∧ 0 < x.n := by
  obtain ⟨A, c, e, hs'⟩ := Sees.of_own h.row
  obtain ⟨g, o, x, e2, hg, hx, hc⟩ := heads_at hs' hk
  rcases h.row.2 with ⟨e3, e4⟩ | ⟨g', cap, cur, e3, -⟩
  · omega
  · rw [e] at e3
    injection e3 with e5 e6 e7
    rw [e2] at e5
    injection e5 with e5
    injection e5 with e8 e9
    subst e8 e9
    rw [Nat.zero_add] at hc
    refine ⟨g, c, x, by rw [e, e2], hg, hx, hc, (h.see x (List.mem_of_getElem? hx)).1, (h.see x (List.mem_of_getElem? hx)).2⟩
theorem comp_zip {cols : List Col} : ∀ {hs : List CodeH} {args : List Ex}, hs.length = args.length → (∀ (j : Nat) (h : CodeH) (a : Ex), hs[j]? = some h → args[j]? = some a → h.l = compE cols a) → allIns hs = compAll cols args
  | [], [], _, _ => by rw [compAll]; rfl
  | h :: hs, a :: args, hl, hz => by
    have h1 := hz 0 h a rfl rfl
    have h2 := comp_zip (cols := cols) (hs := hs) (args := args) (by simpa using hl) (fun j x y hx hy => hz (j + 1) x y (by simpa using hx) (by simpa using hy))
    rw [compAll, ← h1, ← h2]; rfl
  | [], _ :: _, hl, _ => by simp at hl
  | _ :: _, [], hl, _ => by simp at hl
def CompAt (m : Nat) : Prop := ∀ e : Ex, SizeOf.sizeOf e ≤ m → ∀ (C : Option Addr) (p q : Nat) (cols : List Col) (w : World), OpsT w → SeesCols w C p q cols → SeesEx w e → nodesErr e = 0 → (ofE cols e).h = 0 → exN e ≤ 200 →
  Calls Tryd.prog 30 #[exV e, .slice C p q] w (CodeSays (compE cols e) w)
set_option maxHeartbeats 4000000 in
set_option maxRecDepth 100000 in
theorem comp_step (m : Nat) (ih : CompAt m) (op name : ByteArray) (v : Val) (A : Option Addr) (c : Nat) (args : List Ex) (pos : Int) (hm : SizeOf.sizeOf (Ex.mk op name v A c args pos) ≤ m + 1)
    (C : Option Addr) (p q : Nat) (cols : List Col) (w : World) (hO : OpsT w) (hC : SeesCols w C p q cols) (he : SeesEx w (.mk op name v A c args pos)) (hne : nodesErr (.mk op name v A c args pos) = 0) (hh : (ofE cols (.mk op name v A c args pos)).h = 0) (hN : exN (.mk op name v A c args pos) ≤ 200) :
    Calls Tryd.prog 30 #[exV (.mk op name v A c args pos), .slice C p q] w (CodeSays (compE cols (.mk op name v A c args pos)) w) := by
  have IH := Lib.hid ih
  have HM := Lib.hid (fun a (ha : a ∈ args) => show SizeOf.sizeOf a ≤ m by have := ex_lt (e := .mk op name v A c args pos) ha; omega)
  have HNN := Lib.hid (fun a (ha : a ∈ args) => show exN a ≤ 200 by have := exNs_mem ha; rw [exN] at hN; omega)
  have HLEN := Lib.hid (show (compE cols (.mk op name v A c args pos)).length ≤ 1200 by have := comp_len (cols := cols) _ (.mk op name v A c args pos) (Nat.le_refl _); omega)
  have HPOS := Lib.hid (fun a => comp_pos cols a)
  have hb0 : Below w.heap.size w (w.alloc (.cells #[.string op, .string name, .int .i64 v.type, .int .i64 v.n, .string v.s, .slice A args.length c, .int .i64 pos] 26)) := belowNew _ _
  have hbx := heap_alloc_new w (.cells #[.string op, .string name, .int .i64 v.type, .int .i64 v.n, .string v.s, .slice A args.length c, .int .i64 pos] 26)
  have HNE := Lib.hid (nodesErr_parts hne)
  have HP := Lib.hid (ofE_parts hh)
  have hn3 := (nodeErr_len HNE.out.1).2.2
  have hcap : args.length ≤ c := he.parts.1.2.1
  have hmax : c ≤ maxLen := he.parts.1.2.2.1
  unfold maxLen at hmax
  have hq : p ≤ q := hC.2.2.1
  have hqm : q ≤ maxLen := hC.2.2.2.1
  unfold maxLen at hqm
  have HS := Lib.hid (compE_mk cols op name v A c args pos)
  have HEX := Lib.hid he
  have HCO := Lib.hid hC
  have HOT := Lib.hid hO
  show Calls Tryd.prog 30 #[.agg #[.string op, .string name, .int .i64 v.type, .int .i64 v.n, .string v.s, .slice A args.length c, .int .i64 pos], .slice C p q] w _
  generalize hn : args.length = n at hcap hn3 HNE hb0 hbx ⊢
  have HLn := Lib.hid hn
  obtain ⟨w0, hw0⟩ : ∃ w0, w.alloc (.cells #[.string op, .string name, .int .i64 v.type, .int .i64 v.n, .string v.s, .slice A n c, .int .i64 pos] 26) = w0 := ⟨_, rfl⟩
  rw [hw0] at hb0 hbx
  have HB0 := Lib.hid hb0
  have HBX := Lib.hid hbx
  have HLT := Lib.hid (show w.heap.size < w0.heap.size by rw [← hw0]; simp)
  have HW0 := Lib.hid hw0
  have HE0 := Lib.hid (he.keep hb0)
  clear ih hm hC hO he hne hh hb0 hbx hw0 hn hN
  have d3 := (box7' HBX.out).2.2.2.2.2.1
  go_enter Tryd.func30, Tryd.ntmps30
  go_wp2_with (first | rw [HW0.out])
  clear d3
  go_loopw [5, 13] (fun su iu wx => ∃ (k : Nat) (hs : List CodeH), k ≤ n ∧ iu = .int .i64 k ∧ hs.length = k ∧ FragAt wx w0.heap.size su hs ∧ (∀ (j : Nat) (h : CodeH) (a : Ex), hs[j]? = some h → args[j]? = some a → h.l = compE cols a) ∧ Below w0.heap.size w0 wx) (fun _ iu _ => n - (intOf iu).toNat)
  case atStart => exact ⟨0, [], by omega, rfl, rfl, ⟨World.ownsRow_nil _ _ _ _, by simp, by simp⟩, by simp, Below.refl _ _⟩
  case round =>
    obtain ⟨k, hs, hk, rfl, hlk, hfr, hzip, hb⟩ := hrel
    have HFR := Lib.hid hfr
    have HZIP := Lib.hid hzip
    have HBR := Lib.hid hb
    have HLK := Lib.hid hlk
    have HSZ := Lib.hid hb.size
    by_cases hkn : k < n
    · obtain ⟨g, o, x, e1, hg, hx, hsx, c0, c1, c2, c3, c4, c5, c6⟩ := (HE0.out.keep hb).at_ (k := k) (by show k < args.length; rw [HLn.out]; exact hkn)
      obtain rfl : A = some ⟨g, o, none⟩ := e1
      have HX := Lib.hid (show args[k]? = some x from hx)
      have hmx := List.mem_of_getElem? HX.out
      obtain ⟨AD, cd, rfl, hsd⟩ := Sees.of_own hfr.row
      rw [hlk]
      obtain ⟨w1, hw1⟩ : ∃ w1, wr.alloc (.cells #[.string x.op, .string x.name, .int .i64 x.val.type, .int .i64 x.val.n, .string x.val.s, .slice x.A x.args.length x.c, .int .i64 x.pos] 26) = w1 := ⟨_, rfl⟩
      have hb1 : Below wr.heap.size wr w1 := by rw [← hw1]; exact belowNew _ _
      have hbx1 := heap_alloc_new wr (.cells #[.string x.op, .string x.name, .int .i64 x.val.type, .int .i64 x.val.n, .string x.val.s, .slice x.A x.args.length x.c, .int .i64 x.pos] 26)
      rw [hw1] at hbx1
      obtain ⟨x0, x1, x2, x3, x4, x5, x6⟩ := box7' hbx1
      have HB1 := Lib.hid (HBR.out.trans (hb1.mono HSZ.out))
      have T := Lib.hid (IH.out x (HM.out x hmx) C p q cols w1 (HOT.out.keep (below_step (below_step HB0.out hb) hb1)) (HCO.out.keep (below_step (below_step HB0.out hb) hb1)) ((hsx.keep hb1)) (nodesErrs_all HNE.out.2 x hmx) (HP.out.1 x hmx) (HNN.out x hmx))
      unfold exV at T
      have HFR1 := Lib.hid (hfr.keep hb1)
      have HW1 := Lib.hid hw1
      have hdc := hsd.2.1
      have hdm := hsd.2.2.1
      unfold maxLen at hdm
      have HPX := Lib.hid (HPOS.out x)
      generalize hcx : compE cols x = cx at T HPX
      have HCX := Lib.hid hcx
      clear hfr hzip hb hlk hx hsx hmx hsd hw1 hb1 hbx1 hcx
      go_wp2_with (first | rw [HW1.out])
      refine (T.out).mono ?_
      rintro e w2 ⟨g1, c1', rfl, hown, hb2⟩
      have HB2 := Lib.hid (HB1.out.trans (hb2.mono HB1.out.size))
      have HFR2 := Lib.hid (HFR1.out.keep hb2)
      have HSEE := Lib.hid (CodeSays.see hown)
      have HG1 := Lib.hid (show w1.heap.size ≤ g1 ∧ g1 < w2.heap.size from hown.lt g1 rfl)
      have HFD := Lib.hid (show (Value.slice AD hs.length cd).ownBlock ≠ some g1 from fun e => by have h1 := (HFR1.out.row.lt _ e).2; have h2 := HG1.out.1; omega)
      have HSZ2 := Lib.hid HB2.out.size
      have HONE := Lib.hid (show ∀ u ∈ (#[Value.slice (some ⟨g1, 0, none⟩) cx.length c1'] : Array Value).toList, u.oneCell' = true by intro u hu; simp at hu; subst hu; rfl)
      have HBY := Lib.hid (show (hs.length + 1) * 24 ≤ 140737488355328 by have := HLK.out; omega)
      have HROW := Lib.hid (show w2.ownsRow w0.heap.size 31 1 (.slice AD k cd) k (hs.map codeHV) by have h := HFR2.out.row; rwa [HLK.out] at h)
      rw [HLK.out] at HFR2 HFD HBY
      clear hb2 hown x0 x1 x2 x3 x4 x5 x6
      go_wp2_with (first | (at_builtin; refine list_append_one codesSlice rfl _ _ rfl rfl rfl HROW.out HSZ2.out rfl HONE.out HBY.out ?_; intro g2 cap w3 hown3 hg3 hat3; obtain ⟨hfr3, hbe3⟩ := frag_push HFR2.out HPX.out HSEE.out HFD.out HG1.out.2 (belowNew _ _) hown3 (by rw [HLK.out]) hg3 (hat3.elim Or.inl (fun e => Or.inr (by omega))) HSZ2.out; have HFR3 := Lib.hid hfr3; have HBE3 := Lib.hid (HB2.out.trans hbe3); clear hown3 hg3 hat3 hfr3 hbe3))
      go_roundw
      case rel =>
        refine ⟨k + 1, hs ++ [⟨some ⟨g1, 0, none⟩, cx.length, c1', cx⟩], by omega, by go_num, by rw [List.length_append, HLK.out]; rfl, HFR3.out, ?_, HBE3.out⟩
        intro j h a hj ha
        by_cases hjk : j < k
        · rw [List.getElem?_append_left (by rw [HLK.out]; exact hjk)] at hj
          exact HZIP.out j h a hj ha
        · by_cases hjk2 : j = k
          · subst hjk2
            rw [List.getElem?_append_right (by rw [HLK.out]; exact Nat.le_refl _), HLK.out, Nat.sub_self] at hj
            have hj : (⟨some ⟨g1, 0, none⟩, cx.length, c1', cx⟩ : CodeH) = h := by simpa using hj
            rw [HX.out] at ha
            injection ha with ha
            rw [← hj, ← ha]
            exact HCX.out.symm
          · rw [List.getElem?_eq_none (by rw [List.length_append, HLK.out]; show k + 1 ≤ j; omega)] at hj
            cases hj
      case measure => simp [intOf]; omega
    · obtain rfl : k = n := by omega
      have HBW := Lib.hid (below_step HB0.out hb)
      obtain ⟨d0, d1, d2, d3, d4, d5, d6⟩ := box7' ((HBR.out.block w.heap.size HLT.out).trans HBX.out)
      clear hfr hzip hb
      by_cases hv : isVal op
      · as_aux_lemma =>
        have E := Lib.hid (show compE cols (.mk op name v A c args pos) = [pushI v] by rw [HS.out, if_pos hv])
        have e1 := str_is hv
        have T := Lib.hid (push_code v wr)
        clear hv
        go_wp2_with fail
        refine (T.out).mono ?_
        rintro e w2 ⟨g1, c1, rfl, hown, hb⟩
        have HB2 := Lib.hid (below_step HBW.out hb)
        have HO2 := Lib.hid (own_low hown HBW.out.size)
        clear hown hb d0 d1 d2 d3 d4 d5 d6
        go_wp2_with fail
        go_ret
        rw [E.out]
        exact ⟨_, _, rfl, HO2.out, HB2.out⟩
      · have e1 := str_ne hv
        by_cases hc : isCol op
        · as_aux_lemma =>
          have e2 := str_is hc
          have hpp := HP.out.2.2
          unfold ofNode at hpp
          rw [if_neg hv, if_pos hc] at hpp
          have hf : ¬ findCol cols name < 0 := fun hf => by
            rw [if_pos hf] at hpp; exact absurd (show (5 : Int) = 0 from hpp) (by omega)
          have T := Lib.hid (rFind_some cols name C p q wr (HCO.out.keep HBW.out) (Int.not_lt.1 hf))
          have E := Lib.hid (show compE cols (.mk op name v A c args pos) = [⟨2, findCol cols name, noVal⟩] by rw [HS.out, if_neg hv, if_pos hc]; rfl)
          have T2 := Lib.hid (fun w' => instr_code 2 (findCol cols name) w')
          clear hv hc hf hpp
          go_wp2_with fail
          refine (T.out).mono ?_
          rintro e w2 ⟨rfl, hb⟩
          have HB2 := Lib.hid (below_step HBW.out hb)
          clear hb d0 d1 d2 d3 d4 d5 d6
          go_wp2_with fail
          refine (T2.out _).mono ?_
          rintro e w3 ⟨g1, c1, rfl, hown, hb⟩
          have HB3 := Lib.hid (below_step HB2.out hb)
          have HO3 := Lib.hid (own_low hown HB2.out.size)
          clear hown hb
          go_wp2_with fail
          go_ret
          rw [E.out]
          exact ⟨_, _, rfl, HO3.out, HB3.out⟩
        · have e2 := str_ne hc
          obtain ⟨q1, q2⟩ := ofNode_op hv hc HP.out.2.2
          have HRP := Lib.hid (ruleErr_parts q1)
          clear q1 q2
          by_cases ha : isAnd op
          · as_aux_lemma =>
            have e3 := str_is ha
            have hkn2 : k = 2 := by
              have h1 := HRP.out.2.1
              rw [ofTypes_length, HLn.out, show arityOf op = 2 by rw [bytes_of (show op.data.toList = _ from ha)]; decide] at h1
              omega
            subst hkn2
            obtain ⟨g0, cc0, y0, ev0, hg0, hy0, k0, hsy0, hpy0⟩ := HFR.out.at_ (k := 0) (by rw [HLK.out]; omega)
            obtain ⟨g1, cc1, y1, ev1, hg1, hy1, k1, hsy1, hpy1⟩ := HFR.out.at_ (k := 1) (by rw [HLK.out]; omega)
            rw [ev0] at ev1
            injection ev1 with a1 a2 a3
            injection a1 with a1
            injection a1 with a1 a4
            subst a1 a3
            subst ev0
            rw [HLK.out]
            have HY0 := Lib.hid hsy0
            have HP0 := Lib.hid hpy0
            have HX0 := Lib.hid (show y0.l = compAt cols args 0 by
              have hl : args[0]? = some (args[0]'(by rw [HLn.out]; omega)) := List.getElem?_eq_getElem _
              rw [HZIP.out 0 y0 _ hy0 hl, compAt_get hl])
            have HY1 := Lib.hid hsy1
            have HP1 := Lib.hid hpy1
            have HX1 := Lib.hid (show y1.l = compAt cols args 1 by
              have hl : args[1]? = some (args[1]'(by rw [HLn.out]; omega)) := List.getElem?_eq_getElem _
              rw [HZIP.out 1 y1 _ hy1 hl, compAt_get hl])
            have E := Lib.hid (show compE cols (.mk op name v A c args pos) = eithP y0.l y1.l [pushI (truthV false)] by rw [HS.out, if_neg hv, if_neg hc, if_pos ha, HX0.out, HX1.out])
            have HL2 := Lib.hid (show _ ≤ 1000000 from Nat.le_trans (by have h := HLEN.out; rw [E.out] at h; exact h) (show 1200 ≤ 1000000 by decide))
            have hcc := (Sees.of_own HFR.out.row)
            obtain ⟨AZ, cz, ez, hz⟩ := hcc
            injection ez with ez1 ez2 ez3
            subst ez1 ez3
            have hzc := hz.2.1
            have hzm := hz.2.2.1
            unfold maxLen at hzm
            rw [HLK.out] at hzc
            have HG0 := Lib.hid hg0
            clear hv hc ha hz hy0 hsy0 hpy0 hy1 hsy1 hpy1
            go_wp2_with fail
            go_region_held3 (fun w' => w'.cell? ⟨g0, 0, none⟩ = some (.slice y0.A y0.n y0.c) ∧ w'.cell? ⟨g0, 1, none⟩ = some (.slice y1.A y1.n y1.c)) (first | go_keep | exact ⟨k0, k1⟩ | exact ⟨q0, q1⟩ | exact ⟨r0, r1⟩ | exact ⟨t0, t1⟩)
            (first
            | (go_at_call 74; refine (truth_any false _).mono ?_; rintro e w3 ⟨rfl, hb3⟩; have q0 := (hb3.cell (p := ⟨g0, 0, none⟩) hg0).trans k0; have q1 := (hb3.cell (p := ⟨g0, 1, none⟩) hg0).trans k1; have HB3 := Lib.hid (below_step HBW.out.drew hb3); have hg3 : g0 < w3.heap.size := Nat.lt_of_lt_of_le hg0 hb3.size; have HK3 := Lib.hid hb3; unfold valV; clear hb3)
            | (go_at_call 70; refine (push_code (truthV false) _).mono ?_; rintro e w4 ⟨g4, c4, rfl, hown, hb4⟩; have r0 := (hb4.cell (p := ⟨g0, 0, none⟩) hg3).trans q0; have r1 := (hb4.cell (p := ⟨g0, 1, none⟩) hg3).trans q1; have HB4 := Lib.hid (below_step HB3.out hb4); have HS4 := Lib.hid (CodeSays.see hown); have HY0' := Lib.hid ((HY0.out.keep (belowDrew _)).keep (below_step HK3.out hb4)); have HY1' := Lib.hid ((HY1.out.keep (belowDrew _)).keep (below_step HK3.out hb4)); have hg4 : g0 < w4.heap.size := Nat.lt_of_lt_of_le hg3 hb4.size; dsimp only [List.length_cons, List.length_nil]; clear hown hb4)
            | (go_at_call 73; refine (either_code y0 y1 ⟨some ⟨g4, 0, none⟩, 1, c4, [pushI (truthV false)]⟩ _ HY0'.out HY1'.out HS4.out HP0.out HP1.out Nat.one_pos HL2.out).mono ?_; rintro e w5 ⟨g5, c5, rfl, hown, hb5⟩; have t0 := (hb5.cell (p := ⟨g0, 0, none⟩) hg4).trans r0; have t1 := (hb5.cell (p := ⟨g0, 1, none⟩) hg4).trans r1; have HO5 := Lib.hid (own_low hown HB4.out.size); have HB5 := Lib.hid (below_step HB4.out hb5); clear hown hb5))
            go_wp2_with fail
            go_ret
            rw [E.out]
            exact ⟨_, _, rfl, HO5.out, HB5.out⟩
          · by_cases hor : isOr op
            · as_aux_lemma =>
              have e3 := str_ne ha
              have e4 := str_is hor
              have hkn2 : k = 2 := by
                have h1 := HRP.out.2.1
                rw [ofTypes_length, HLn.out, show arityOf op = 2 by rw [bytes_of (show op.data.toList = _ from hor)]; decide] at h1
                omega
              subst hkn2
              obtain ⟨g0, cc0, y0, ev0, hg0, hy0, k0, hsy0, hpy0⟩ := HFR.out.at_ (k := 0) (by rw [HLK.out]; omega)
              obtain ⟨g1, cc1, y1, ev1, hg1, hy1, k1, hsy1, hpy1⟩ := HFR.out.at_ (k := 1) (by rw [HLK.out]; omega)
              rw [ev0] at ev1
              injection ev1 with a1 a2 a3
              injection a1 with a1
              injection a1 with a1 a4
              subst a1 a3
              subst ev0
              rw [HLK.out]
              have HY0 := Lib.hid hsy0
              have HP0 := Lib.hid hpy0
              have HX0 := Lib.hid (show y0.l = compAt cols args 0 by
                have hl : args[0]? = some (args[0]'(by rw [HLn.out]; omega)) := List.getElem?_eq_getElem _
                rw [HZIP.out 0 y0 _ hy0 hl, compAt_get hl])
              have HY1 := Lib.hid hsy1
              have HP1 := Lib.hid hpy1
              have HX1 := Lib.hid (show y1.l = compAt cols args 1 by
                have hl : args[1]? = some (args[1]'(by rw [HLn.out]; omega)) := List.getElem?_eq_getElem _
                rw [HZIP.out 1 y1 _ hy1 hl, compAt_get hl])
              have E := Lib.hid (show compE cols (.mk op name v A c args pos) = eithP y0.l [pushI (truthV true)] y1.l by rw [HS.out, if_neg hv, if_neg hc, if_neg ha, if_pos hor, HX0.out, HX1.out])
              have HL2 := Lib.hid (show _ ≤ 1000000 from Nat.le_trans (by have h := HLEN.out; rw [E.out] at h; exact h) (show 1200 ≤ 1000000 by decide))
              have hcc := (Sees.of_own HFR.out.row)
              obtain ⟨AZ, cz, ez, hz⟩ := hcc
              injection ez with ez1 ez2 ez3
              subst ez1 ez3
              have hzc := hz.2.1
              have hzm := hz.2.2.1
              unfold maxLen at hzm
              rw [HLK.out] at hzc
              have HG0 := Lib.hid hg0
              clear hv hc ha hor hz hy0 hsy0 hpy0 hy1 hsy1 hpy1
              go_wp2_with fail
              go_region_held3 (fun w' => w'.cell? ⟨g0, 0, none⟩ = some (.slice y0.A y0.n y0.c) ∧ w'.cell? ⟨g0, 1, none⟩ = some (.slice y1.A y1.n y1.c)) (first | go_keep | exact ⟨k0, k1⟩ | exact ⟨q0, q1⟩ | exact ⟨r0, r1⟩ | exact ⟨t0, t1⟩)
              (first
              | (go_at_call 74; refine (truth_any true _).mono ?_; rintro e w3 ⟨rfl, hb3⟩; have q0 := (hb3.cell (p := ⟨g0, 0, none⟩) hg0).trans k0; have q1 := (hb3.cell (p := ⟨g0, 1, none⟩) hg0).trans k1; have HB3 := Lib.hid (below_step HBW.out.drew hb3); have hg3 : g0 < w3.heap.size := Nat.lt_of_lt_of_le hg0 hb3.size; have HK3 := Lib.hid hb3; unfold valV; clear hb3)
              | (go_at_call 70; refine (push_code (truthV true) _).mono ?_; rintro e w4 ⟨g4, c4, rfl, hown, hb4⟩; have r0 := (hb4.cell (p := ⟨g0, 0, none⟩) hg3).trans q0; have r1 := (hb4.cell (p := ⟨g0, 1, none⟩) hg3).trans q1; have HB4 := Lib.hid (below_step HB3.out hb4); have HS4 := Lib.hid (CodeSays.see hown); have HY0' := Lib.hid ((HY0.out.keep (belowDrew _)).keep (below_step HK3.out hb4)); have HY1' := Lib.hid ((HY1.out.keep (belowDrew _)).keep (below_step HK3.out hb4)); have hg4 : g0 < w4.heap.size := Nat.lt_of_lt_of_le hg3 hb4.size; dsimp only [List.length_cons, List.length_nil]; clear hown hb4)
              | (go_at_call 73; refine (either_code y0 ⟨some ⟨g4, 0, none⟩, 1, c4, [pushI (truthV true)]⟩ y1 _ HY0'.out HS4.out HY1'.out HP0.out Nat.one_pos HP1.out HL2.out).mono ?_; rintro e w5 ⟨g5, c5, rfl, hown, hb5⟩; have t0 := (hb5.cell (p := ⟨g0, 0, none⟩) hg4).trans r0; have t1 := (hb5.cell (p := ⟨g0, 1, none⟩) hg4).trans r1; have HO5 := Lib.hid (own_low hown HB4.out.size); have HB5 := Lib.hid (below_step HB4.out hb5); clear hown hb5))
              go_wp2_with fail
              go_ret
              rw [E.out]
              exact ⟨_, _, rfl, HO5.out, HB5.out⟩
            · by_cases hi : isIf op
              · as_aux_lemma =>
                have e3 := str_ne ha
                have e4 := str_ne hor
                have e5 := str_is hi
                have hkn2 : k = 3 := by
                  have h1 := HRP.out.2.1
                  rw [ofTypes_length, HLn.out, (if_grp hi).2] at h1
                  omega
                subst hkn2
                obtain ⟨g0, cc0, y0, ev0, hg0, hy0, k0, hsy0, hpy0⟩ := HFR.out.at_ (k := 0) (by rw [HLK.out]; omega)
                obtain ⟨g1, cc1, y1, ev1, hg1, hy1, k1, hsy1, hpy1⟩ := HFR.out.at_ (k := 1) (by rw [HLK.out]; omega)
                obtain ⟨g2, cc2, y2, ev2, hg2, hy2, k2, hsy2, hpy2⟩ := HFR.out.at_ (k := 2) (by rw [HLK.out]; omega)
                rw [ev0] at ev1
                injection ev1 with a1 a2 a3
                injection a1 with a1
                injection a1 with a1 a4
                subst a1 a3
                rw [ev0] at ev2
                injection ev2 with a1 a2 a3
                injection a1 with a1
                injection a1 with a1 a4
                subst a1 a3
                subst ev0
                rw [HLK.out]
                have HY0 := Lib.hid hsy0
                have HP0 := Lib.hid hpy0
                have HX0 := Lib.hid (show y0.l = compAt cols args 0 by
                  have hl : args[0]? = some (args[0]'(by rw [HLn.out]; omega)) := List.getElem?_eq_getElem _
                  rw [HZIP.out 0 y0 _ hy0 hl, compAt_get hl])
                have HY1 := Lib.hid hsy1
                have HP1 := Lib.hid hpy1
                have HX1 := Lib.hid (show y1.l = compAt cols args 1 by
                  have hl : args[1]? = some (args[1]'(by rw [HLn.out]; omega)) := List.getElem?_eq_getElem _
                  rw [HZIP.out 1 y1 _ hy1 hl, compAt_get hl])
                have HY2 := Lib.hid hsy2
                have HP2 := Lib.hid hpy2
                have HX2 := Lib.hid (show y2.l = compAt cols args 2 by
                  have hl : args[2]? = some (args[2]'(by rw [HLn.out]; omega)) := List.getElem?_eq_getElem _
                  rw [HZIP.out 2 y2 _ hy2 hl, compAt_get hl])
                have E := Lib.hid (show compE cols (.mk op name v A c args pos) = eithP y0.l y1.l y2.l by rw [HS.out, if_neg hv, if_neg hc, if_neg ha, if_neg hor, if_pos hi, HX0.out, HX1.out, HX2.out])
                have HL2 := Lib.hid (show _ ≤ 1000000 from Nat.le_trans (by have h := HLEN.out; rw [E.out] at h; exact h) (show 1200 ≤ 1000000 by decide))
                have hcc := (Sees.of_own HFR.out.row)
                obtain ⟨AZ, cz, ez, hz⟩ := hcc
                injection ez with ez1 ez2 ez3
                subst ez1 ez3
                have hzc := hz.2.1
                have hzm := hz.2.2.1
                unfold maxLen at hzm
                rw [HLK.out] at hzc
                have HG0 := Lib.hid hg0
                clear hv hc ha hor hi hz hy0 hsy0 hpy0 hy1 hsy1 hpy1 hy2 hsy2 hpy2
                go_wp2_with fail
                go_region_held3 (fun w' => w'.cell? ⟨g0, 0, none⟩ = some (.slice y0.A y0.n y0.c) ∧ w'.cell? ⟨g0, 1, none⟩ = some (.slice y1.A y1.n y1.c) ∧ w'.cell? ⟨g0, 2, none⟩ = some (.slice y2.A y2.n y2.c)) (first | go_keep | exact ⟨k0, k1, k2⟩ | exact ⟨q0, q1, q2⟩)
                (first | (go_at_call 73; refine (either_code y0 y1 y2 _ (HY0.out.keep (belowDrew _)) (HY1.out.keep (belowDrew _)) (HY2.out.keep (belowDrew _)) HP0.out HP1.out HP2.out HL2.out).mono ?_; rintro e w5 ⟨g5, c5, rfl, hown, hb5⟩; have q0 := (hb5.cell (p := ⟨g0, 0, none⟩) hg0).trans k0; have q1 := (hb5.cell (p := ⟨g0, 1, none⟩) hg0).trans k1; have q2 := (hb5.cell (p := ⟨g0, 2, none⟩) hg0).trans k2; have HO5 := Lib.hid (own_low hown HBW.out.drew.size); have HB5 := Lib.hid (below_step HBW.out.drew hb5); clear hown hb5))
                go_wp2_with fail
                go_ret
                rw [E.out]
                exact ⟨_, _, rfl, HO5.out, HB5.out⟩
              · as_aux_lemma =>
                have e3 := str_ne ha
                have e4 := str_ne hor
                have e5 := str_ne hi
                have hk1 : 1 ≤ k := by
                  have h1 := HRP.out.2.1
                  rw [ofTypes_length, HLn.out] at h1
                  obtain ⟨o1, o2⟩ := op_ix HRP.out.1 ha hor hi
                  have := op_arity o1
                  rw [o2] at this
                  omega
                have HALL := Lib.hid (show allIns hs = compAll cols args from comp_zip (by rw [HLK.out, HLn.out]) HZIP.out)
                have E := Lib.hid (show compE cols (.mk op name v A c args pos) = compAll cols args ++ [opI (opIx op)] by rw [HS.out, if_neg hv, if_neg hc, if_neg ha, if_neg hor, if_neg hi])
                have hle := HLEN.out
                rw [E.out, List.length_append, show [opI (opIx op)].length = 1 from rfl] at hle
                obtain ⟨AZ, cz, ez, hz⟩ := Sees.of_own HFR.out.row
                subst ez
                rw [HLK.out] at hz ⊢
                have TC := Lib.hid (fun w' (hb : Below wr.heap.size wr w') => concat_code hs AZ k cz w' (hz.keep hb) (fun h hh => ⟨(HFR.out.see h hh).1.keep hb, (HFR.out.see h hh).2⟩) (by omega) (by rw [HALL.out]; omega))
                rw [HALL.out] at TC
                have TK := Lib.hid (fun w' (hb : Below w.heap.size w w') => kops_any w' (HOT.out.keep hb))
                have TI := Lib.hid (fun (b off c : Nat) (w' : World) (hc : ∀ j, j < opsB.length → w'.cell? ⟨b, off + j, none⟩ = some (.string (opsB.getD j ByteArray.empty))) => Tryd.slices_Index_string b off 17 c opsB op w' (by decide) (by decide) hc)
                rw [show opsB.take 17 = opsB from rfl] at TI
                have TN := Lib.hid (fun w' => instr_code 3 (opIx op) w')
                generalize compAll cols args = ca at TC E hle
                clear hv hc ha hor hi HALL
                have HCR := Lib.hid (show codeCells ca ++ codeCells [opI (opIx op)] = codeCells (ca ++ [opI (opIx op)]) by unfold codeCells; rw [List.flatMap_append])
                have HONE := Lib.hid (insCells_one [opI (opIx op)])
                have HBY := Lib.hid (show (ca.length + 1) * 48 ≤ 140737488355328 by omega)
                go_wp2_with fail
                go_region_law (first
                  | (refine step_append_src insSlice rfl (.tmp 77) (.tmp 82) rfl Nat.one_pos (by simp [Act.eval]) (by simp [Act.eval]; rfl) rfl HCELL.out HO4.out HSZ4.out HONE.out HBY.out ?_; intro g9 cap w9 hown9 hg9 hat9; have HO9 := Lib.hid hown9; have HB9 := Lib.hid (HB4.out.trans ((Only.of_grown (S := fun q => (Value.slice (some ⟨g1, 0, none⟩) ca.length c1).ownBlock = some q) hg9 (fun q hq => hq.symm)).below HSZ4.out (fun q hq => (HO4.out.lt q hq).1))); clear hown9 hg9 hat9)
                  | (go_simp; go_at_call 75; refine (TC.out _ (belowDrew _)).mono ?_; rintro e w1 ⟨g1, c1, rfl, ho1, hb1⟩; have HB1 := Lib.hid (below_step HBW.out.drew hb1); have HO1 := Lib.hid (own_low ho1 HBW.out.drew.size); have a0 := (hb1.cell (p := ⟨w.heap.size, 0, none⟩) (Nat.lt_of_lt_of_le HLT.out HBR.out.size)).trans d0; have HLT1 := Lib.hid (Nat.lt_of_lt_of_le (Nat.lt_of_lt_of_le HLT.out HBR.out.size) hb1.size); clear ho1 hb1)
                  | (go_simp; go_at_call 65; refine (TK.out _ HB1.out).mono ?_; rintro e w2 ⟨AO, co, rfl, hso, hb2⟩; obtain ⟨go, oo, eo, hgo, hco⟩ := hso.2.2.2.2 (by decide); subst eo; have HCO2 := Lib.hid hco; have HB2 := Lib.hid (below_step HB1.out hb2); have HO2 := Lib.hid (own_keep HO1.out hb2); have b0 := (hb2.cell (p := ⟨w.heap.size, 0, none⟩) HLT1.out).trans a0; clear hso hb2 hgo hco)
                  | (go_simp; go_at_call 76; refine (TI.out _ _ _ _ (opsB_cells HCO2.out)).mono ?_; rintro e w3 ⟨rfl, rfl⟩)
                  | (go_simp; go_at_call 72; refine (TN.out _).mono ?_; rintro e w4 ⟨g4, c4, rfl, ho4, hb4⟩; have HB4 := Lib.hid (below_step HB2.out hb4); have HO4 := Lib.hid (own_keep HO2.out hb4); have HCELL := Lib.hid (own_cells ho4); have HSZ4 := Lib.hid HB4.out.size; clear ho4 hb4))
                all_goals
                  go_wp2_with fail
                  go_ret
                  rw [E.out]
                  refine ⟨g9, cap, by rw [List.length_append]; rfl, ?_, HB9.out⟩
                  rw [List.length_append, ← HCR.out]
                  exact HO9.out
theorem comp_any : ∀ m : Nat, CompAt m
  | 0 => fun e hm _ _ _ _ _ _ _ _ _ _ _ => by cases e; simp at hm
  | m + 1 => fun e hm C p q cols w hO hC he hne hh hN => by
    obtain ⟨op, name, v, A, c, args, pos⟩ := e
    exact comp_step m (comp_any m) op name v A c args pos hm C p q cols w hO hC he hne hh hN
end Go.Proofs.YthmbafkedgahaaaDoor
