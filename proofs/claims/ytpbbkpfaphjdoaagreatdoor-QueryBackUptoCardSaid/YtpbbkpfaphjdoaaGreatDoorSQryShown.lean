/- query.text and query.Print, walked: the text of a query, if it has one. -/
import Derived.Test.YtpbbkpfaphjdoaaGreatDoorSQrySame
import Derived.Test.YtpbbkpfaphjdoaaGreatDoorSQryText
import Derived.Test.YtpbbkpfaphjdoaaGreatDoorSQryParse
import Derived.BigQuiet
namespace Go.Proofs.YtpbbkpfaphjdoaaGreatDoor
open Go.ChangeShapes Go.WideShapes Go.ChangeAt Go.RowKit
structure SmallQ (q : QX) : Prop where
 lens : q.cols.length ≤ 1048576 ∧ q.names.length ≤ 1048576 ∧ q.group.length ≤ 1048576 ∧ q.aggs.length ≤ 1048576
 from_ : q.from_.size ≤ 1048576
 names : ∀ s ∈ q.names, s.size ≤ 1048576
 group : ∀ s ∈ q.group, s.size ≤ 1048576
 aggs : ∀ a ∈ q.aggs, a.what.size ≤ 1048576 ∧ a.name.size ≤ 1048576
def asB : ByteArray := ⟨#[32, 97, 115, 32]⟩
def itemX (e : Ex) (s : ByteArray) : ByteArray := (txB (exText e) ++ asB) ++ s
def aggTX (a : AggX) : ByteArray := if cntQ a.what = true then a.what else a.what ++ ((⟨#[40]⟩ ++ txB (exText a.of)) ++ ⟨#[41]⟩)
def itemAX (a : AggX) : ByteArray := (aggTX a ++ asB) ++ a.name
def items1 (q : QX) : List ByteArray := (q.cols.zip q.names).map (fun x => itemX x.1 x.2)
def items2 (q : QX) : List ByteArray := q.aggs.map itemAX
def joinB (l : List ByteArray) : ByteArray := ⟨(Lib.join (l.map (·.data.toList)) [44, 32]).toArray⟩
def text0 (q : QX) : ByteArray := ((⟨#[115, 101, 108, 101, 99, 116, 32]⟩ ++ joinB (items1 q ++ items2 q)) ++ ⟨#[32, 102, 114, 111, 109, 32]⟩) ++ q.from_
def text1 (q : QX) : ByteArray := if hasOp q.wher = true then text0 q ++ (⟨#[32, 119, 104, 101, 114, 101, 32]⟩ ++ txB (exText q.wher)) else text0 q
def itoaB (n : Int) : ByteArray := ⟨(Lib.itoa n).toArray⟩
def text2 (q : QX) : ByteArray := text1 q ++ (((⟨#[32, 103, 114, 111, 117, 112, 32, 98, 121, 32]⟩ ++ joinB q.group) ++ ⟨#[32, 119, 105, 110, 100, 111, 119, 32]⟩) ++ itoaB q.size)
def text3 (q : QX) : ByteArray := if q.aggs.length = 0 then text1 q else if q.slide = q.size then text2 q else text2 q ++ (⟨#[32, 115, 108, 105, 100, 101, 32]⟩ ++ itoaB q.slide)
def txE1 (q : QX) (k : Nat) : Int := match q.cols[k]? with
 | some e => if checkErr e ≠ 0 ∨ q.names.length ≤ k then 2 else 0
 | none => 0
def txE2 (q : QX) (k : Nat) : Int := match q.aggs[k]? with
 | some a => if cntQ a.what = true then 0 else checkErr a.of
 | none => 0
def textErrX (q : QX) : Int := if firstErr (txE1 q) q.cols.length ≠ 0 then firstErr (txE1 q) q.cols.length else if firstErr (txE2 q) q.aggs.length ≠ 0 then firstErr (txE2 q) q.aggs.length else if hasOp q.wher = true then checkErr q.wher else 0
theorem textErr_1 {q : QX} {k : Nat} (hk : k < q.cols.length) (h0 : firstErr (txE1 q) k = 0) (h : txE1 q k ≠ 0) : textErrX q = txE1 q k := by
 have e : firstErr (txE1 q) q.cols.length = txE1 q k := firstErr_hit h0 h _ hk
 unfold textErrX
 rw [e, if_pos h]
theorem textErr_2 {q : QX} {k : Nat} (h1 : firstErr (txE1 q) q.cols.length = 0) (hk : k < q.aggs.length) (h0 : firstErr (txE2 q) k = 0) (h : txE2 q k ≠ 0) : textErrX q = txE2 q k := by
 have e : firstErr (txE2 q) q.aggs.length = txE2 q k := firstErr_hit h0 h _ hk
 unfold textErrX
 rw [h1, if_neg (by decide), e, if_pos h]
theorem textErr_3 {q : QX} (h1 : firstErr (txE1 q) q.cols.length = 0) (h2 : firstErr (txE2 q) q.aggs.length = 0) : textErrX q = if hasOp q.wher = true then checkErr q.wher else 0 := by
 unfold textErrX
 rw [h1, if_neg (by decide), h2, if_neg (by decide)]
theorem items1_next {q : QX} {k : Nat} {x : Ex} {s : ByteArray} (h1 : q.cols[k]? = some x) (h2 : q.names[k]? = some s) : (items1 q).take (k + 1) = (items1 q).take k ++ [itemX x s] := by
 have e : (items1 q)[k]? = some (itemX x s) := by
  unfold items1
  rw [List.getElem?_map, (List.getElem?_zip_eq_some (z := (x, s))).2 ⟨h1, h2⟩]
  rfl
 rw [List.take_add_one, e]
 rfl
theorem items2_next {q : QX} {k : Nat} {a : AggX} (h : q.aggs[k]? = some a) : (items2 q).take (k + 1) = (items2 q).take k ++ [itemAX a] := by
 have e : (items2 q)[k]? = some (itemAX a) := by
  unfold items2
  rw [List.getElem?_map, h]
  rfl
 rw [List.take_add_one, e]
 rfl
theorem exText_small {e : Ex} (hc : checkErr e = 0) (hf : fitsE e) : (txB (exText e)).size ≤ 48000 := by
 obtain ⟨h1, h2, h3⟩ := checkErr_ok hc
 have h4 := (size_ok 30 (Nat.le_refl _) e h2 h3).1
 have h5 := exText_len e h3 hf
 have e1 : (txB (exText e)).size = (exText e).length := rfl
 omega
theorem lensT_most {m : Nat} : ∀ {l : List (List UInt8)}, (∀ t ∈ l, t.length ≤ m) → lensT l ≤ l.length * m
 | [], _ => Nat.zero_le _
 | a :: l, h => by
  have h1 := h a List.mem_cons_self
  have h2 := lensT_most (l := l) (fun t ht => h t (List.mem_cons_of_mem _ ht))
  rw [List.length_cons, Nat.add_one_mul]
  show a.length + lensT l ≤ _
  omega
theorem join_most {l : List ByteArray} {n m : Nat} (hn : l.length ≤ n) (h : ∀ t ∈ l, t.size ≤ m) : (Lib.join (l.map (·.data.toList)) [44, 32]).length ≤ n * m + 2 * n := by
 have h1 := lensT_join (l.map (·.data.toList))
 have h2 : lensT (l.map (·.data.toList)) ≤ (l.map (·.data.toList)).length * m := lensT_most (fun t ht => by
  obtain ⟨s, hs, rfl⟩ := List.mem_map.1 ht
  exact h s hs)
 rw [List.length_map] at h1 h2
 have h3 := Nat.mul_le_mul_right m hn
 omega
def TextSaysX (q : QX) (w : World) (r : Ending) (w' : World) : Prop := r = .returned (.tuple #[.string (if textErrX q = 0 then text3 q else ⟨#[]⟩), errV (textErrX q)]) ∧ Below w.heap.size w w'
theorem text_bad {q : QX} {w w' : World} {k : Int} (h : textErrX q = k) (hk : k ≠ 0) (hb : Below w.heap.size w w') : TextSaysX q w (.returned (.tuple #[.string ⟨#[]⟩, .iface 32 (.int .i64 k)])) w' := by
 unfold TextSaysX
 rw [h, if_neg hk, errV_ne hk]
 exact ⟨rfl, hb⟩
theorem text_good {q : QX} {w w' : World} {s : ByteArray} (h : textErrX q = 0) (hs : text3 q = s) (hb : Below w.heap.size w w') : TextSaysX q w (.returned (.tuple #[.string s, .nilIface])) w' := by
 unfold TextSaysX
 rw [h, if_pos rfl, errV_zero, hs]
 exact ⟨rfl, hb⟩
theorem itoa_small {n : Int} (h : fits n) : (itoaB n).size ≤ 21 := by
 have e : (itoaB n).size = (Lib.itoa n).length := by unfold itoaB; rw [← size_eq]
 rw [e]
 have := Lib.itoa_length_le n (by unfold fits lo63 hi63 at h; omega) (by unfold fits lo63 hi63 at h; omega)
 omega
theorem firstErr_allQ {f : Nat → Int} : ∀ {n : Nat}, firstErr f n = 0 → ∀ k, k < n → f k = 0
 | 0, _, k, hk => by omega
 | n + 1, h, k, hk => by
  rw [firstErr] at h
  split at h
  ·rename_i h0
   rcases Nat.lt_succ_iff_lt_or_eq.1 hk with h1 | rfl
   ·exact firstErr_allQ h0 k h1
   ·exact h
  ·rename_i h0; exact absurd h h0
theorem items_small {q : QX} (hs : SmallQ q) (hf : (∀ x ∈ q.cols, fitsE x) ∧ ∀ a ∈ q.aggs, fitsE a.of) (h1 : firstErr (txE1 q) q.cols.length = 0) (h2 : firstErr (txE2 q) q.aggs.length = 0) : ∀ t ∈ items1 q ++ items2 q, t.size ≤ 4194304 := by
 have hasz : asB.size = 4 := rfl
 intro t ht
 rcases List.mem_append.1 ht with ht | ht
 ·unfold items1 at ht
  obtain ⟨⟨e, s⟩, hes, rfl⟩ := List.mem_map.1 ht
  obtain ⟨m1, m2⟩ := List.of_mem_zip hes
  obtain ⟨k, hk⟩ := List.mem_iff_getElem?.1 m1
  have hlt := (List.getElem?_eq_some_iff.1 hk).1
  have hz := firstErr_allQ h1 k hlt
  unfold txE1 at hz
  rw [hk] at hz
  have hc : checkErr e = 0 := by
   by_cases hc : checkErr e = 0
   ·exact hc
   ·simp only at hz
    rw [if_pos (Or.inl hc)] at hz
    exact absurd hz (by decide)
  have a1 := exText_small hc (hf.1 e m1)
  have a2 := hs.names s m2
  show (itemX e s).size ≤ _
  unfold itemX
  simp only [ByteArray.size_append]
  omega
 ·unfold items2 at ht
  obtain ⟨a, ha, rfl⟩ := List.mem_map.1 ht
  obtain ⟨k, hk⟩ := List.mem_iff_getElem?.1 ha
  have hlt := (List.getElem?_eq_some_iff.1 hk).1
  have hz := firstErr_allQ h2 k hlt
  unfold txE2 at hz
  rw [hk] at hz
  simp only at hz
  obtain ⟨b1, b2⟩ := hs.aggs a ha
  unfold itemAX aggTX
  by_cases hc : cntQ a.what = true
  ·rw [if_pos hc]
   simp only [ByteArray.size_append]
   omega
  ·rw [if_neg hc] at hz ⊢
   have a1 := exText_small hz (hf.2 a ha)
   have e1 : (⟨#[40]⟩ : ByteArray).size = 1 := rfl
   have e2 : (⟨#[41]⟩ : ByteArray).size = 1 := rfl
   simp only [ByteArray.size_append]
   omega
set_option maxHeartbeats 16000000 in
set_option maxRecDepth 100000 in
theorem text_any (q : QX) (w : World) (hq : SeesQ (fun _ => True) w q) (hsm : SmallQ q) (hL : LevelsT w) (hW : WordsT w) (hT : TextT w) : Calls Tryz.prog 46 #[qxV q] w (TextSaysX q w) := by
 obtain ⟨w0, hw0, ho0, hb0⟩ := box_q w q
 have HQ := Lib.hid (hq.keep (.of_below hb0))
 have HP := Lib.hid (fun (x : Ex) (w' : World) (hb : Below w0.heap.size w0 w') (hx : SeesEx w' x) => printE_any x w' ((hL.keep hb0).keep hb) ((hW.keep hb0).keep hb) ((hT.keep hb0).keep hb) hx)
 have HTT := Lib.hid (hT.keep hb0)
 have HEX := Lib.hid (show SeesEx w0 (.mk ⟨#[]⟩ ⟨#[]⟩ noVal q.CA q.cc q.cols 0) from .mk HQ.out.cols.1 (Nat.zero_le _) (Nat.zero_le _) ⟨show fits 0 by decide, show fits 0 by decide, Nat.zero_le _⟩ (show fits 0 by decide) (fun x hx => (HQ.out.colsAt x hx).see))
 have HFE := Lib.hid (show (∀ x ∈ q.cols, fitsE x) ∧ ∀ a ∈ q.aggs, fitsE a.of from ⟨fun x hx => fitsE_sees (hq.colsAt x hx).see, fun a ha => fitsE_sees (hq.aggsAt a ha).see⟩)
 have HB0 := Lib.hid hb0
 have HO0 := Lib.hid ho0
 have HW0 := Lib.hid hw0
 have HSM := Lib.hid hsm
 have c8 : w0.cell? ⟨w.heap.size, 8, none⟩ = some (.slice q.CA q.cols.length q.cc) := ho0.cell rfl
 have hl0 := ho0.lt
 have hcap := hq.cols.1.2.1
 have hmax := hq.cols.1.2.2.1
 have hcap2 := hq.aggs.1.2.1
 have hmax2 := hq.aggs.1.2.2.1
 have hcap3 := hq.names.1.2.1
 have hmax3 := hq.names.1.2.2.1
 unfold maxLen at hmax hmax2 hmax3
 obtain ⟨hn1, hn2, hn3, hn4⟩ := hsm.lens
 clear hq hw0 ho0 hb0 hsm hL hW hT
 unfold qxV
 go_enter Tryz.func46, Tryz.ntmps46
 go_wp2_with (first | rw [HW0.out])
 clear c8
 go_loopw [4, 20] (fun v i wr => ∃ k : Nat, k ≤ q.cols.length ∧ i = .int .i64 k ∧ wr.ownsRow w0.heap.size 9 1 v k (strCells ((items1 q).take k)) ∧ Below w0.heap.size w0 wr ∧ firstErr (txE1 q) k = 0 ∧ k ≤ q.names.length) (fun _ i _ => q.cols.length - (intOf i).toNat)
 case atStart => exact ⟨0, Nat.zero_le _, rfl, World.ownsRow_nil _ _ _ _, Below.refl _ _, rfl, Nat.zero_le _⟩
 case round =>
  obtain ⟨k, hk, rfl, hown, hb, hno, hkn⟩ := hrel
  have HN := Lib.hid hno
  have HKN := Lib.hid hkn
  have HBR := Lib.hid hb
  clear hno hkn
  by_cases hlk : k < q.cols.length
  ·obtain ⟨g, o, x, (hA : q.CA = _), hg, hx, hsx, d0, d1, d2, d3, d4, d5, d6⟩ := (HEX.out.keep hb).at_ (k := k) hlk
   have hx : q.cols[k]? = some x := hx
   obtain ⟨w3, hw3⟩ : ∃ w3, wr.alloc (.cells #[.string x.op, .string x.name, .int .i64 x.val.type, .int .i64 x.val.n, .string x.val.s, .slice x.A x.args.length x.c, .int .i64 x.pos] 26) = w3 := ⟨_, rfl⟩
   have hb3 : Below wr.heap.size wr w3 := by rw [← hw3]; exact belowNew' _ _
   have ho3 : Own7 w3 wr.heap.size x := by rw [← hw3]; exact own7_new _ _
   obtain ⟨k0, k1, k2, k3, k4, k5, k6⟩ := ho3.cells
   have hl3 := ho3.lt
   have HB3 := Lib.hid (hb.trans (hb3.mono hb.size))
   have T := Lib.hid (HP.out x w3 HB3.out (hsx.keep hb3))
   have HFX := Lib.hid (fitsE_sees hsx)
   unfold exV PrintESays at T
   have HOW := Lib.hid (own_keep hown hb3)
   have HW3 := Lib.hid hw3
   have HX := Lib.hid hx
   clear hx hsx hw3 hb3 ho3 hown hb
   by_cases he : checkErr x = 0
   ·have HSX := Lib.hid (exText_small he HFX.out)
    rw [he, if_pos rfl, errV_zero] at T
    have HCE := Lib.hid he
    obtain ⟨tx, htx⟩ : ∃ tx, txB (exText x) = tx := ⟨_, rfl⟩
    rw [htx] at T HSX
    have HTX := Lib.hid htx
    have hsx := HSX.out
    clear he htx
    go_wp2_with (first | rw [HW3.out])
    refine (T.out).mono ?_
    rintro e' w4 ⟨rfl, hb4⟩
    have HB4 := Lib.hid (HB3.out.trans (hb4.mono HB3.out.size))
    have HOW4 := Lib.hid (own_keep HOW.out hb4)
    clear hb4 k0 k1 k2 k3 k4 k5 k6 d0 d1 d2 d3 d4 d5 d6 hl3
    have HRQ := HO0.out.keep HB4.out
    have c9 : w4.cell? ⟨w.heap.size, 9, none⟩ = some (.slice q.NA q.names.length q.nc) := HRQ.cell rfl
    have hlr := HRQ.lt
    clear HRQ
    by_cases hlk2 : k < q.names.length
    ·obtain ⟨g2, o2, s, hNA, hg2, hs2, n0⟩ := strAt (HQ.out.names.1.keep HB4.out) hlk2
     have hss := HSM.out.names s (List.mem_of_getElem? hs2)
     have HS2 := Lib.hid hs2
     have EN := Lib.hid (show txE1 q k = 0 by unfold txE1; rw [HX.out]; exact if_neg (by rintro (h | h); exact h HCE.out; omega))
     clear hs2
     have hb4 := HB4.out
     have how4 := HOW4.out
     go_wp2_with (first
      | (at_builtin; refine wpList_append_one strSlice rfl _ _ rfl rfl rfl how4 hb4 (Nat.le_refl _) rfl (by intro u hu; simp at hu; subst hu; rfl) (by omega) ?_; intro v1 wz hownz hbz _))
     go_roundw
     case rel =>
      exact ⟨_, _, _, _, _, _, _, _, ⟨k + 1, by omega, by go_num, by rw [items1_next HX.out HS2.out, strCells_snoc']; unfold itemX; rw [HTX.out]; exact hownz, firstErr_next HN.out EN.out, by omega⟩, rfl, rfl, rfl, rfl, rfl, rfl, rfl, rfl⟩
     case measure => simp [intOf]; omega
    ·have EN := Lib.hid (show txE1 q k = 2 by unfold txE1; rw [HX.out]; exact if_pos (Or.inr (by omega)))
     have HERR := Lib.hid ((textErr_1 hlk HN.out (by rw [EN.out]; decide)).trans EN.out)
     have HBF := Lib.hid (below_step HB0.out HB4.out)
     go_wp2_with fail
     go_ret2
     exact text_bad HERR.out (by decide) HBF.out
   ·rw [if_neg he, errV_ne he] at T
    have EN := Lib.hid (show txE1 q k = 2 by unfold txE1; rw [HX.out]; exact if_pos (Or.inl he))
    have HERR := Lib.hid ((textErr_1 hlk HN.out (by rw [EN.out]; decide)).trans EN.out)
    generalize checkErr x = re at T
    clear he
    go_wp2_with (first | rw [HW3.out])
    refine (T.out).mono ?_
    rintro e' w4 ⟨rfl, hb4⟩
    have HBF := Lib.hid (below_step HB0.out (HB3.out.trans (hb4.mono HB3.out.size)))
    clear hb4
    go_wp2_with fail
    go_ret2
    exact text_bad HERR.out (by decide) HBF.out
  ·obtain rfl : k = q.cols.length := by omega
   have HI1 := Lib.hid (show (items1 q).length = q.cols.length by unfold items1; rw [List.length_map, List.length_zip]; have := HKN.out; omega)
   have HOW := Lib.hid (show wr.ownsRow w0.heap.size 9 1 u4 q.cols.length (strCells (items1 q)) by rw [List.take_of_length_le (by rw [HI1.out]; exact Nat.le_refl _)] at hown; exact hown)
   have HRQ := HO0.out.keep hb
   have c13 : wr.cell? ⟨w.heap.size, 13, none⟩ = some (.slice q.AA q.aggs.length q.ac) := HRQ.cell rfl
   have hlr := HRQ.lt
   clear HRQ hb hown hlk
   go_wp2_with fail
   clear c13
   go_loopw [4, 55] (fun v i wr => ∃ k : Nat, k ≤ q.aggs.length ∧ i = .int .i64 k ∧ wr.ownsRow w0.heap.size 9 1 v (q.cols.length + k) (strCells (items1 q ++ (items2 q).take k)) ∧ Below w0.heap.size w0 wr ∧ firstErr (txE2 q) k = 0) (fun _ i _ => q.aggs.length - (intOf i).toNat)
   case atStart => exact ⟨0, Nat.zero_le _, rfl, by simpa using HOW.out, HBR.out, rfl⟩
   case round =>
    have HN1 := Lib.hid HN.out
    clear HN HOW HBR hlr
    obtain ⟨k, hk, rfl, hown, hb, hno⟩ := hrel
    have HN := Lib.hid hno
    have HBR := Lib.hid hb
    clear hno
    by_cases hlk : k < q.aggs.length
    ·obtain ⟨g, o, x, hA, hg, hx, a0, a1, a2, a3, a4, a5, a6, a7, a8⟩ := aggs_at (HQ.out.aggs.1.keep hb) hlk
     obtain ⟨w3, hw3, ho3, hb3⟩ := box_aggx wr x
     have k0 : w3.cell? ⟨wr.heap.size, 0, none⟩ = some (.string x.what) := ho3.cell rfl
     have k1 : w3.cell? ⟨wr.heap.size, 1, none⟩ = some (.string x.of.op) := ho3.cell rfl
     have k2 : w3.cell? ⟨wr.heap.size, 2, none⟩ = some (.string x.of.name) := ho3.cell rfl
     have k3 : w3.cell? ⟨wr.heap.size, 3, none⟩ = some (.int .i64 x.of.val.type) := ho3.cell rfl
     have k4 : w3.cell? ⟨wr.heap.size, 4, none⟩ = some (.int .i64 x.of.val.n) := ho3.cell rfl
     have k5 : w3.cell? ⟨wr.heap.size, 5, none⟩ = some (.string x.of.val.s) := ho3.cell rfl
     have k6 : w3.cell? ⟨wr.heap.size, 6, none⟩ = some (.slice x.of.A x.of.args.length x.of.c) := ho3.cell rfl
     have k7 : w3.cell? ⟨wr.heap.size, 7, none⟩ = some (.int .i64 x.of.pos) := ho3.cell rfl
     have k8 : w3.cell? ⟨wr.heap.size, 8, none⟩ = some (.string x.name) := ho3.cell rfl
     have hl3 := ho3.lt
     have HO3 := Lib.hid ho3
     have HB3 := Lib.hid (hb.trans (hb3.mono hb.size))
     have hsx := ((HQ.out.aggsAt x (List.mem_of_getElem? hx)).see).keep HB3.out
     have HFX := Lib.hid (fitsE_sees hsx)
     have T := Lib.hid (HP.out x.of w3 HB3.out hsx)
     unfold exV PrintESays at T
     have hos := (HSM.out.aggs x (List.mem_of_getElem? hx))
     obtain ⟨hos1, hos2⟩ := hos
     have HOW := Lib.hid (own_keep hown hb3)
     have HW3 := Lib.hid hw3
     have HX := Lib.hid hx
     clear hx hw3 hb3 ho3 hown hb hsx
     obtain ⟨b, hbb⟩ : ∃ b, cntQ x.what = b := ⟨_, rfl⟩
     have HBC := Lib.hid hbb
     unfold cntQ at hbb
     have hb3 := HB3.out
     have how3 := HOW.out
     cases b with
     | true =>
      have EN := Lib.hid (show txE2 q k = 0 by unfold txE2; rw [HX.out]; exact if_pos HBC.out)
      have EI := Lib.hid (show itemAX x = (x.what ++ asB) ++ x.name by unfold itemAX aggTX; rw [if_pos HBC.out])
      go_wp2_with (first
       | rw [HW3.out]
       | (at_builtin; refine wpList_append_one strSlice rfl _ _ rfl rfl rfl how3 hb3 (Nat.le_refl _) rfl (by intro u hu; simp at hu; subst hu; rfl) (by omega) ?_; intro v1 wz hownz hbz _))
      go_roundw
      case rel =>
       exact ⟨_, _, _, _, _, _, _, _, ⟨k + 1, by omega, by go_num, by rw [items2_next HX.out, ← List.append_assoc, strCells_snoc', EI.out]; exact hownz, firstErr_next HN.out EN.out⟩, rfl, rfl, rfl, rfl, rfl, rfl, rfl, rfl⟩
      case measure => simp [intOf]; omega
     | false =>
      by_cases he : checkErr x.of = 0
      ·have HSX := Lib.hid (exText_small he HFX.out)
       rw [he, if_pos rfl, errV_zero] at T
       have EN := Lib.hid (show txE2 q k = 0 by unfold txE2; rw [HX.out]; exact (if_neg (by rw [HBC.out]; decide)).trans he)
       obtain ⟨tx, htx⟩ : ∃ tx, txB (exText x.of) = tx := ⟨_, rfl⟩
       rw [htx] at T HSX
       have EI := Lib.hid (show itemAX x = ((x.what ++ ((⟨#[40]⟩ ++ tx) ++ ⟨#[41]⟩)) ++ asB) ++ x.name by unfold itemAX aggTX; rw [if_neg (by rw [HBC.out]; decide), htx])
       have hsx := HSX.out
       clear he htx
       go_wp2_with (first | rw [HW3.out])
       refine (T.out).mono ?_
       rintro e' w4 ⟨rfl, hb4⟩
       have HB4 := Lib.hid (HB3.out.trans (hb4.mono HB3.out.size))
       have HOW4 := Lib.hid (own_keep HOW.out hb4)
       have m8 : w4.cell? ⟨wr.heap.size, 8, none⟩ = some (.string x.name) := (HO3.out.keep hb4).cell rfl
       have hl4 := (HO3.out.keep hb4).lt
       clear hb4 k0 k1 k2 k3 k4 k5 k6 k7 k8 a0 a1 a2 a3 a4 a5 a6 a7 a8 hb3 how3 hl3
       have hb4 := HB4.out
       have how4 := HOW4.out
       go_wp2_with (first
        | (at_builtin; refine wpList_append_one strSlice rfl _ _ rfl rfl rfl how4 hb4 (Nat.le_refl _) rfl (by intro u hu; simp at hu; subst hu; rfl) (by omega) ?_; intro v1 wz hownz hbz _))
       go_roundw
       case rel =>
        exact ⟨_, _, _, _, _, _, _, _, ⟨k + 1, by omega, by go_num, by rw [items2_next HX.out, ← List.append_assoc, strCells_snoc', EI.out]; exact hownz, firstErr_next HN.out EN.out⟩, rfl, rfl, rfl, rfl, rfl, rfl, rfl, rfl⟩
       case measure => simp [intOf]; omega
      ·rw [if_neg he, errV_ne he] at T
       have EN := Lib.hid (show txE2 q k = checkErr x.of by unfold txE2; rw [HX.out]; exact if_neg (by rw [HBC.out]; decide))
       have HERR := Lib.hid ((textErr_2 HN1.out hlk HN.out (by rw [EN.out]; exact he)).trans EN.out)
       have HNE := Lib.hid he
       generalize checkErr x.of = re at T HERR HNE
       clear he
       go_wp2_with (first | rw [HW3.out])
       refine (T.out).mono ?_
       rintro e' w4 ⟨rfl, hb4⟩
       have HBF := Lib.hid (below_step HB0.out (HB3.out.trans (hb4.mono HB3.out.size)))
       clear hb4
       go_wp2_with fail
       go_ret2
       exact text_bad HERR.out HNE.out HBF.out
    ·obtain rfl : k = q.aggs.length := by omega
     have HI2 := Lib.hid (show (items2 q).take q.aggs.length = items2 q from List.take_of_length_le (by unfold items2; rw [List.length_map]; exact Nat.le_refl _))
     rw [HI2.out] at hown
     obtain ⟨sA, sc, rfl, hss⟩ := Sees.of_own hown
     have HSS := Lib.hid hss
     have HERR := Lib.hid (textErr_3 HN1.out HN.out)
     clear hown hss
     have HIT := Lib.hid (items_small HSM.out HFE.out HN1.out HN.out)
     have HJL := Lib.hid (show (Lib.join ((items1 q ++ items2 q).map (·.data.toList)) [44, 32]).length ≤ 140737488355328 by
      have := join_most (l := items1 q ++ items2 q) (n := 2097152) (m := 4194304) (by rw [List.length_append, HI1.out]; unfold items2; rw [List.length_map]; omega) HIT.out
      omega)
     have TJ := Lib.hid (fun (w' : World) (hb' : Below wr.heap.size wr w') => join_seen sA (q.cols.length + q.aggs.length) sc (items1 q ++ items2 q) ⟨#[44, 32]⟩ w' (HSS.out.keep hb') (by omega) HJL.out)
     have hjs : (joinB (items1 q ++ items2 q)).size ≤ 140737488355328 := by
      have e : (joinB (items1 q ++ items2 q)).size = (Lib.join ((items1 q ++ items2 q).map (·.data.toList)) [44, 32]).length := by unfold joinB; rw [← size_eq]
      rw [e]; exact HJL.out
     have E0 := Lib.hid (show text0 q = ((⟨#[115, 101, 108, 101, 99, 116, 32]⟩ ++ joinB (items1 q ++ items2 q)) ++ ⟨#[32, 102, 114, 111, 109, 32]⟩) ++ q.from_ from rfl)
     have TJ : Hid (∀ (w' : World), Below wr.heap.size wr w' → Calls Tryz.prog 114 #[.slice sA (q.cols.length + q.aggs.length) sc, .string ⟨#[44, 32]⟩] w' fun e w'' => e = .returned (.string (joinB (items1 q ++ items2 q))) ∧ Below w'.heap.size w' w'') := TJ
     generalize joinB (items1 q ++ items2 q) = js at TJ hjs E0
     have hfs := HSM.out.from_
     have HXC := Lib.hid (show ∀ w', Below wr.heap.size wr w' → w'.cell? ⟨w.heap.size, 0, none⟩ = some (.string q.from_) from fun w' hb' => (HO0.out.keep (HBR.out.trans (hb'.mono HBR.out.size))).cell rfl)
     clear hb hlk
     go_wp2_with fail
     refine wp_region_held (S := fun w' => w'.cell? ⟨w.heap.size, 0, none⟩ = some (.string q.from_)) (by kernel_rfl) ?_
     change wpAnyH _ _ _ _ _ _ _ _ (World.drew wr)
     have HS1 : (fun w' : World => w'.cell? ⟨w.heap.size, 0, none⟩ = some (.string q.from_)) (World.drew wr) := HXC.out _ (Below.refl _ _).drew
     refine takeH (i := 0) (d := some 87) (v := .slice sA (q.cols.length + q.aggs.length) sc) rfl rfl (by kernel_rfl) (by kernel_rfl) (by kernel_rfl) (fun _ _ _ h => h) (Or.inl ⟨by rfl, fun w' hS => by have hS' : w'.cell? ⟨w.heap.size, 0, none⟩ = some (.string q.from_) := hS; first | (go_simp; done) | (go_simp; omega)⟩) HS1 ?_
     simp only [Act.put, List.setIfInBounds_toArray, List.set_cons_zero, List.set_cons_succ]
     refine takeH (i := 4) (d := some 91) (v := .pointer (some ⟨w.heap.size, 0, none⟩)) rfl rfl (by kernel_rfl) (by kernel_rfl) (by kernel_rfl) (fun _ _ _ h => h) (Or.inl ⟨by rfl, fun w' hS => by have hS' : w'.cell? ⟨w.heap.size, 0, none⟩ = some (.string q.from_) := hS; first | (go_simp; done) | (go_simp; omega)⟩) HS1 ?_
     simp only [Act.put, List.setIfInBounds_toArray, List.set_cons_zero, List.set_cons_succ]
     refine takeH (i := 5) (d := some 92) (v := .string q.from_) rfl rfl (by kernel_rfl) (by kernel_rfl) (by kernel_rfl) (fun _ _ _ h => h) (Or.inl ⟨by rfl, fun w' hS => by have hS' : w'.cell? ⟨w.heap.size, 0, none⟩ = some (.string q.from_) := hS; first | (go_simp; done) | (go_simp; omega)⟩) HS1 ?_
     simp only [Act.put, List.setIfInBounds_toArray, List.set_cons_zero, List.set_cons_succ]
     refine wpAnyH_all (rs := [1]) (by kernel_rfl) (by simp) (fun jj hj => ?_)
     obtain rfl : jj = 1 := by simpa using hj
     refine wpOp_returnsD (d := some 88) rfl rfl (by rfl) (f := 114) (args := #[.slice sA (q.cols.length + q.aggs.length) sc, .string ⟨#[44, 32]⟩]) (by go_simp) (TJ.out (World.drew wr) (Below.refl _ _).drew) ?_
     rintro e w9 ⟨rfl, hb9⟩
     have hb9' : Below wr.heap.size wr w9 := (Below.refl wr.heap.size wr).drew.trans hb9
     have HS2 : (fun w' : World => w'.cell? ⟨w.heap.size, 0, none⟩ = some (.string q.from_)) w9 := HXC.out _ hb9'
     refine ⟨_, rfl, HS2, ?_⟩
     simp only [Act.put, List.setIfInBounds_toArray, List.set_cons_zero, List.set_cons_succ]
     refine takeH (i := 2) (d := some 89) (v := .string (⟨#[115, 101, 108, 101, 99, 116, 32]⟩ ++ js)) rfl rfl (by kernel_rfl) (by kernel_rfl) (by kernel_rfl) (fun _ _ _ h => h) (Or.inl ⟨by rfl, fun w' hS => by have hS' : w'.cell? ⟨w.heap.size, 0, none⟩ = some (.string q.from_) := hS; first | (go_simp; done) | (go_simp; omega)⟩) HS2 ?_
     simp only [Act.put, List.setIfInBounds_toArray, List.set_cons_zero, List.set_cons_succ]
     refine takeH (i := 3) (d := some 90) (v := .string ((⟨#[115, 101, 108, 101, 99, 116, 32]⟩ ++ js) ++ ⟨#[32, 102, 114, 111, 109, 32]⟩)) rfl rfl (by kernel_rfl) (by kernel_rfl) (by kernel_rfl) (fun _ _ _ h => h) (Or.inl ⟨by rfl, fun w' hS => by have hS' : w'.cell? ⟨w.heap.size, 0, none⟩ = some (.string q.from_) := hS; first | (go_simp; done) | (go_simp; omega)⟩) HS2 ?_
     simp only [Act.put, List.setIfInBounds_toArray, List.set_cons_zero, List.set_cons_succ]
     refine takeH (i := 6) (d := some 93) (v := .string (((⟨#[115, 101, 108, 101, 99, 116, 32]⟩ ++ js) ++ ⟨#[32, 102, 114, 111, 109, 32]⟩) ++ q.from_)) rfl rfl (by kernel_rfl) (by kernel_rfl) (by kernel_rfl) (fun _ _ _ h => h) (Or.inl ⟨by rfl, fun w' hS => by have hS' : w'.cell? ⟨w.heap.size, 0, none⟩ = some (.string q.from_) := hS; first | (go_simp; done) | (go_simp; omega)⟩) HS2 ?_
     simp only [Act.put, List.setIfInBounds_toArray, List.set_cons_zero, List.set_cons_succ]
     refine wpAnyH_all (rs := [7]) (by kernel_rfl) (by simp) (fun jj hj => ?_)
     obtain rfl : jj = 7 := by simpa using hj
     refine wpOp_valueD (d := some 14) rfl rfl (by rfl) (v := .string (((⟨#[115, 101, 108, 101, 99, 116, 32]⟩ ++ js) ++ ⟨#[32, 102, 114, 111, 109, 32]⟩) ++ q.from_)) (w' := w9) (by go_simp) ?_
     refine ⟨HS2, ?_⟩
     refine wpAnyH_done (by kernel_rfl) ?_ _
     simp only [Act.put, List.setIfInBounds_toArray, List.set_cons_zero, List.set_cons_succ]
     have HB9 := Lib.hid (HBR.out.trans (hb9'.mono HBR.out.size))
     clear hb9 hb9' HS1 HS2 TJ
     rw [← E0.out]
     have hs0 : (text0 q).size ≤ 281474976710656 := by rw [E0.out]; simp only [ByteArray.size_append]; have e1 : (⟨#[115, 101, 108, 101, 99, 116, 32]⟩ : ByteArray).size = 7 := rfl; have e2 : (⟨#[32, 102, 114, 111, 109, 32]⟩ : ByteArray).size = 6 := rfl; omega
     obtain ⟨t0, ht0⟩ : ∃ t0, text0 q = t0 := ⟨_, rfl⟩
     rw [ht0] at hs0 ⊢
     have HT0 := Lib.hid ht0
     clear ht0 E0
     have HRW := HO0.out.keep HB9.out
     have c1 : w9.cell? ⟨w.heap.size, 1, none⟩ = some (.string q.wher.op) := HRW.cell rfl
     have c2 : w9.cell? ⟨w.heap.size, 2, none⟩ = some (.string q.wher.name) := HRW.cell rfl
     have c3 : w9.cell? ⟨w.heap.size, 3, none⟩ = some (.int .i64 q.wher.val.type) := HRW.cell rfl
     have c4 : w9.cell? ⟨w.heap.size, 4, none⟩ = some (.int .i64 q.wher.val.n) := HRW.cell rfl
     have c5 : w9.cell? ⟨w.heap.size, 5, none⟩ = some (.string q.wher.val.s) := HRW.cell rfl
     have c6 : w9.cell? ⟨w.heap.size, 6, none⟩ = some (.slice q.wher.A q.wher.args.length q.wher.c) := HRW.cell rfl
     have c7 : w9.cell? ⟨w.heap.size, 7, none⟩ = some (.int .i64 q.wher.pos) := HRW.cell rfl
     have hlw := HRW.lt
     clear HRW
     have TW := Lib.hid (HP.out q.wher w9 HB9.out (HQ.out.wher.see.keep HB9.out))
     unfold exV PrintESays at TW
     have HFW := Lib.hid (fitsE_sees HQ.out.wher.see)
     obtain ⟨b, hbw⟩ : ∃ b, q.wher.op.toList.isEmpty = b := ⟨_, rfl⟩
     have HBW := Lib.hid (show hasOp q.wher = !b by rw [← hbw, Lib.toList_data]; rfl)
     go_upto_if 97 with fail
     go_cut [14] from 98 to 110 (fun s14 wx => (∃ t1 : ByteArray, s14 = .string t1 ∧ text1 q = t1 ∧ t1.size ≤ 562949953421312 ∧ textErrX q = 0) ∧ Below w0.heap.size w0 wx)
     case first =>
      cases b with
      | true =>
       have HNO := Lib.hid (show text1 q = t0 by unfold text1; rw [HBW.out, HT0.out]; rfl)
       have HER := Lib.hid (show textErrX q = 0 by rw [HERR.out, HBW.out]; rfl)
       go_wp2_with fail
       go_meet
       exact ⟨⟨t0, rfl, HNO.out, by omega, HER.out⟩, HB9.out⟩
      | false =>
       have HE2 := Lib.hid (HERR.out.trans (if_pos HBW.out))
       by_cases he : checkErr q.wher = 0
       ·have HSX := Lib.hid (exText_small he HFW.out)
        rw [he, if_pos rfl, errV_zero] at TW
        have HER := Lib.hid (HE2.out.trans he)
        obtain ⟨tx, htx⟩ : ∃ tx, txB (exText q.wher) = tx := ⟨_, rfl⟩
        rw [htx] at TW HSX
        have HYES := Lib.hid (show text1 q = t0 ++ (⟨#[32, 119, 104, 101, 114, 101, 32]⟩ ++ tx) by unfold text1; rw [HBW.out, HT0.out, htx]; rfl)
        have hsx := HSX.out
        clear he htx
        go_wp2_with fail
        refine (TW.out).mono ?_
        rintro e' w10 ⟨rfl, hb10⟩
        have HB10 := Lib.hid (HB9.out.trans (hb10.mono HB9.out.size))
        clear hb10 c1 c2 c3 c4 c5 c6 c7
        go_wp2_with fail
        go_meet
        exact ⟨⟨_, rfl, HYES.out, by simp only [ByteArray.size_append]; have e1 : (⟨#[32, 119, 104, 101, 114, 101, 32]⟩ : ByteArray).size = 7 := rfl; omega, HER.out⟩, HB10.out⟩
       ·rw [if_neg he, errV_ne he] at TW
        have HNE := Lib.hid he
        generalize checkErr q.wher = re at TW HE2 HNE
        clear he
        go_wp2_with fail
        refine (TW.out).mono ?_
        rintro e' w10 ⟨rfl, hb10⟩
        have HBF := Lib.hid (below_step HB0.out (HB9.out.trans (hb10.mono HB9.out.size)))
        clear hb10 c1 c2 c3 c4 c5 c6 c7
        go_wp2_with fail
        go_ret2
        exact text_bad HE2.out HNE.out HBF.out
     case rest =>
      obtain ⟨⟨t1, rfl, ht1, hs1, her⟩, hbl⟩ := hcut
      have HT1 := Lib.hid ht1
      have HER := Lib.hid her
      have HBL := Lib.hid hbl
      have HRG := HO0.out.keep hbl
      have c13 : wc.cell? ⟨w.heap.size, 13, none⟩ = some (.slice q.AA q.aggs.length q.ac) := HRG.cell rfl
      have hlg := HRG.lt
      clear HRG ht1 her hbl TW c1 c2 c3 c4 c5 c6 c7 hlw
      by_cases hz : q.aggs.length = 0
      ·have HTZ := Lib.hid (show text3 q = t1 by unfold text3; rw [if_pos hz, HT1.out])
       have hz' : (decide (0 < q.aggs.length)) = false := decide_eq_false (by omega)
       have HBF := Lib.hid (below_step HB0.out HBL.out)
       clear hz
       go_wp2_with fail
       go_ret2
       exact text_good HER.out HTZ.out HBF.out
      ·have hz' : (decide (0 < q.aggs.length)) = true := decide_eq_true (by omega)
       have HTZ := Lib.hid (show text3 q = if q.slide = q.size then text2 q else text2 q ++ (⟨#[32, 115, 108, 105, 100, 101, 32]⟩ ++ itoaB q.slide) by unfold text3; rw [if_neg hz])
       have HGL := Lib.hid (show (Lib.join (q.group.map (·.data.toList)) [44, 32]).length ≤ 140737488355328 by
        have := join_most (l := q.group) (n := 1048576) (m := 1048576) (by omega) HSM.out.group
        omega)
       have TG : Hid (∀ (w' : World), Below wc.heap.size wc w' → Calls Tryz.prog 114 #[.slice q.GA q.group.length q.gc, .string ⟨#[44, 32]⟩] w' fun e w'' => e = .returned (.string (joinB q.group)) ∧ Below w'.heap.size w' w'') := Lib.hid (fun w' hb' => join_seen q.GA q.group.length q.gc q.group ⟨#[44, 32]⟩ w' ((HQ.out.group.1.keep HBL.out).keep hb') (by omega) HGL.out)
       have hgs : (joinB q.group).size ≤ 140737488355328 := by
        have e : (joinB q.group).size = (Lib.join (q.group.map (·.data.toList)) [44, 32]).length := by unfold joinB; rw [← size_eq]
        rw [e]; exact HGL.out
       have HF1 := Lib.hid HQ.out.nums.1
       have HF2 := Lib.hid HQ.out.nums.2
       have HTL := Lib.hid (HTT.out.keep HBL.out)
       have TI : Hid (∀ n : Int, fits n → ∀ w' : World, Below wc.heap.size wc w' → Calls Tryz.prog 87 #[.int .i64 n] w' fun e w'' => e = .returned (.string (itoaB n)) ∧ Below w'.heap.size w' w'') := Lib.hid (fun n hn w' hb' => (Tryz.strconv_Itoa n (by unfold fits lo63 hi63 at hn; omega) (by unfold fits lo63 hi63 at hn; omega) w' ((HTL.out.keep hb').tab w' (Below.refl _ _))).mono (fun e w'' h => by obtain ⟨rfl, kq, os, rfl⟩ := h; exact ⟨rfl, Lib.below_grow w'.heap.size w' (Nat.le_refl _) kq os⟩))
       have hi1 : (itoaB q.size).size ≤ 21 := itoa_small HF1.out
       have hi2 : (itoaB q.slide).size ≤ 21 := itoa_small HF2.out
       have E2 := Lib.hid (show text2 q = t1 ++ (((⟨#[32, 103, 114, 111, 117, 112, 32, 98, 121, 32]⟩ ++ joinB q.group) ++ ⟨#[32, 119, 105, 110, 100, 111, 119, 32]⟩) ++ itoaB q.size) by unfold text2; rw [HT1.out])
       have TI1 := Lib.hid (TI.out q.size HF1.out)
       have TI2 := Lib.hid (TI.out q.slide HF2.out)
       generalize joinB q.group = gs at TG hgs E2
       generalize itoaB q.size = z1 at TI1 hi1 E2
       generalize itoaB q.slide = z2 at TI2 hi2 HTZ
       have HXG := Lib.hid (show ∀ w', Below wc.heap.size wc w' → w'.cell? ⟨w.heap.size, 10, none⟩ = some (.slice q.GA q.group.length q.gc) ∧ w'.cell? ⟨w.heap.size, 11, none⟩ = some (.int .i64 q.size) from fun w' hb' => ⟨(HO0.out.keep (HBL.out.trans (hb'.mono HBL.out.size))).cell rfl, (HO0.out.keep (HBL.out.trans (hb'.mono HBL.out.size))).cell rfl⟩)
       clear hz TI
       go_wp2_with fail
       refine wp_region_held (S := fun w' => w'.cell? ⟨w.heap.size, 10, none⟩ = some (.slice q.GA q.group.length q.gc) ∧ w'.cell? ⟨w.heap.size, 11, none⟩ = some (.int .i64 q.size)) (by kernel_rfl) ?_
       change wpAnyH _ _ _ _ _ _ _ _ (World.drew wc)
       have HS1 : (fun w' : World => w'.cell? ⟨w.heap.size, 10, none⟩ = some (.slice q.GA q.group.length q.gc) ∧ w'.cell? ⟨w.heap.size, 11, none⟩ = some (.int .i64 q.size)) (World.drew wc) := HXG.out _ (Below.refl _ _).drew
       refine takeH (i := 0) (d := some 115) (v := .string t1) rfl rfl (by kernel_rfl) (by kernel_rfl) (by kernel_rfl) (fun _ _ _ h => h) (Or.inl ⟨by rfl, fun w' hS => by have hS' : w'.cell? ⟨w.heap.size, 10, none⟩ = some (.slice q.GA q.group.length q.gc) ∧ w'.cell? ⟨w.heap.size, 11, none⟩ = some (.int .i64 q.size) := hS; obtain ⟨hS1, hS2⟩ := hS'; first | (go_simp; done) | (go_simp; omega)⟩) HS1 ?_
       simp only [Act.put, List.setIfInBounds_toArray, List.set_cons_zero, List.set_cons_succ]
       refine takeH (i := 1) (d := some 116) (v := .pointer (some ⟨w.heap.size, 10, none⟩)) rfl rfl (by kernel_rfl) (by kernel_rfl) (by kernel_rfl) (fun _ _ _ h => h) (Or.inl ⟨by rfl, fun w' hS => by have hS' : w'.cell? ⟨w.heap.size, 10, none⟩ = some (.slice q.GA q.group.length q.gc) ∧ w'.cell? ⟨w.heap.size, 11, none⟩ = some (.int .i64 q.size) := hS; obtain ⟨hS1, hS2⟩ := hS'; first | (go_simp; done) | (go_simp; omega)⟩) HS1 ?_
       simp only [Act.put, List.setIfInBounds_toArray, List.set_cons_zero, List.set_cons_succ]
       refine takeH (i := 2) (d := some 117) (v := .slice q.GA q.group.length q.gc) rfl rfl (by kernel_rfl) (by kernel_rfl) (by kernel_rfl) (fun _ _ _ h => h) (Or.inl ⟨by rfl, fun w' hS => by have hS' : w'.cell? ⟨w.heap.size, 10, none⟩ = some (.slice q.GA q.group.length q.gc) ∧ w'.cell? ⟨w.heap.size, 11, none⟩ = some (.int .i64 q.size) := hS; obtain ⟨hS1, hS2⟩ := hS'; first | (go_simp; done) | (go_simp; omega)⟩) HS1 ?_
       simp only [Act.put, List.setIfInBounds_toArray, List.set_cons_zero, List.set_cons_succ]
       refine takeH (i := 6) (d := some 121) (v := .pointer (some ⟨w.heap.size, 11, none⟩)) rfl rfl (by kernel_rfl) (by kernel_rfl) (by kernel_rfl) (fun _ _ _ h => h) (Or.inl ⟨by rfl, fun w' hS => by have hS' : w'.cell? ⟨w.heap.size, 10, none⟩ = some (.slice q.GA q.group.length q.gc) ∧ w'.cell? ⟨w.heap.size, 11, none⟩ = some (.int .i64 q.size) := hS; obtain ⟨hS1, hS2⟩ := hS'; first | (go_simp; done) | (go_simp; omega)⟩) HS1 ?_
       simp only [Act.put, List.setIfInBounds_toArray, List.set_cons_zero, List.set_cons_succ]
       refine takeH (i := 7) (d := some 122) (v := .int .i64 q.size) rfl rfl (by kernel_rfl) (by kernel_rfl) (by kernel_rfl) (fun _ _ _ h => h) (Or.inl ⟨by rfl, fun w' hS => by have hS' : w'.cell? ⟨w.heap.size, 10, none⟩ = some (.slice q.GA q.group.length q.gc) ∧ w'.cell? ⟨w.heap.size, 11, none⟩ = some (.int .i64 q.size) := hS; obtain ⟨hS1, hS2⟩ := hS'; first | (go_simp; done) | (go_simp; omega)⟩) HS1 ?_
       simp only [Act.put, List.setIfInBounds_toArray, List.set_cons_zero, List.set_cons_succ]
       refine wpAnyH_all (rs := [3]) (by kernel_rfl) (by simp) (fun jj hj => ?_)
       obtain rfl : jj = 3 := by simpa using hj
       refine wpOp_returnsD (d := some 118) rfl rfl (by rfl) (f := 114) (args := #[.slice q.GA q.group.length q.gc, .string ⟨#[44, 32]⟩]) (by go_simp) (TG.out (World.drew wc) (Below.refl _ _).drew) ?_
       rintro e w11 ⟨rfl, hb11⟩
       have hb11' : Below wc.heap.size wc w11 := (Below.refl wc.heap.size wc).drew.trans hb11
       have HS2 : (fun w' : World => w'.cell? ⟨w.heap.size, 10, none⟩ = some (.slice q.GA q.group.length q.gc) ∧ w'.cell? ⟨w.heap.size, 11, none⟩ = some (.int .i64 q.size)) w11 := HXG.out _ hb11'
       refine ⟨_, rfl, HS2, ?_⟩
       simp only [Act.put, List.setIfInBounds_toArray, List.set_cons_zero, List.set_cons_succ]
       refine takeH (i := 4) (d := some 119) (v := .string (⟨#[32, 103, 114, 111, 117, 112, 32, 98, 121, 32]⟩ ++ gs)) rfl rfl (by kernel_rfl) (by kernel_rfl) (by kernel_rfl) (fun _ _ _ h => h) (Or.inl ⟨by rfl, fun w' hS => by have hS' : w'.cell? ⟨w.heap.size, 10, none⟩ = some (.slice q.GA q.group.length q.gc) ∧ w'.cell? ⟨w.heap.size, 11, none⟩ = some (.int .i64 q.size) := hS; obtain ⟨hS1, hS2⟩ := hS'; first | (go_simp; done) | (go_simp; omega)⟩) HS2 ?_
       simp only [Act.put, List.setIfInBounds_toArray, List.set_cons_zero, List.set_cons_succ]
       refine takeH (i := 5) (d := some 120) (v := .string ((⟨#[32, 103, 114, 111, 117, 112, 32, 98, 121, 32]⟩ ++ gs) ++ ⟨#[32, 119, 105, 110, 100, 111, 119, 32]⟩)) rfl rfl (by kernel_rfl) (by kernel_rfl) (by kernel_rfl) (fun _ _ _ h => h) (Or.inl ⟨by rfl, fun w' hS => by have hS' : w'.cell? ⟨w.heap.size, 10, none⟩ = some (.slice q.GA q.group.length q.gc) ∧ w'.cell? ⟨w.heap.size, 11, none⟩ = some (.int .i64 q.size) := hS; obtain ⟨hS1, hS2⟩ := hS'; first | (go_simp; done) | (go_simp; omega)⟩) HS2 ?_
       simp only [Act.put, List.setIfInBounds_toArray, List.set_cons_zero, List.set_cons_succ]
       refine wpAnyH_all (rs := [8]) (by kernel_rfl) (by simp) (fun jj hj => ?_)
       obtain rfl : jj = 8 := by simpa using hj
       refine wpOp_returnsD (d := some 123) rfl rfl (by rfl) (f := 87) (args := #[.int .i64 q.size]) (by go_simp) (TI1.out w11 hb11') ?_
       rintro e w12 ⟨rfl, hb12⟩
       have hb12' : Below wc.heap.size wc w12 := hb11'.trans (hb12.mono hb11'.size)
       have HS3 : (fun w' : World => w'.cell? ⟨w.heap.size, 10, none⟩ = some (.slice q.GA q.group.length q.gc) ∧ w'.cell? ⟨w.heap.size, 11, none⟩ = some (.int .i64 q.size)) w12 := HXG.out _ hb12'
       refine ⟨_, rfl, HS3, ?_⟩
       simp only [Act.put, List.setIfInBounds_toArray, List.set_cons_zero, List.set_cons_succ]
       refine takeH (i := 9) (d := some 124) (v := .string (((⟨#[32, 103, 114, 111, 117, 112, 32, 98, 121, 32]⟩ ++ gs) ++ ⟨#[32, 119, 105, 110, 100, 111, 119, 32]⟩) ++ z1)) rfl rfl (by kernel_rfl) (by kernel_rfl) (by kernel_rfl) (fun _ _ _ h => h) (Or.inl ⟨by rfl, fun w' hS => by have hS' : w'.cell? ⟨w.heap.size, 10, none⟩ = some (.slice q.GA q.group.length q.gc) ∧ w'.cell? ⟨w.heap.size, 11, none⟩ = some (.int .i64 q.size) := hS; obtain ⟨hS1, hS2⟩ := hS'; first | (go_simp; done) | (go_simp; omega)⟩) HS3 ?_
       simp only [Act.put, List.setIfInBounds_toArray, List.set_cons_zero, List.set_cons_succ]
       refine takeH (i := 10) (d := some 125) (v := .string (t1 ++ (((⟨#[32, 103, 114, 111, 117, 112, 32, 98, 121, 32]⟩ ++ gs) ++ ⟨#[32, 119, 105, 110, 100, 111, 119, 32]⟩) ++ z1))) rfl rfl (by kernel_rfl) (by kernel_rfl) (by kernel_rfl) (fun _ _ _ h => h) (Or.inl ⟨by rfl, fun w' hS => by have hS' : w'.cell? ⟨w.heap.size, 10, none⟩ = some (.slice q.GA q.group.length q.gc) ∧ w'.cell? ⟨w.heap.size, 11, none⟩ = some (.int .i64 q.size) := hS; obtain ⟨hS1, hS2⟩ := hS'; first | (go_simp; done) | (go_simp; omega)⟩) HS3 ?_
       simp only [Act.put, List.setIfInBounds_toArray, List.set_cons_zero, List.set_cons_succ]
       refine wpAnyH_all (rs := [11]) (by kernel_rfl) (by simp) (fun jj hj => ?_)
       obtain rfl : jj = 11 := by simpa using hj
       refine wpOp_valueD (d := some 14) rfl rfl (by rfl) (v := .string (t1 ++ (((⟨#[32, 103, 114, 111, 117, 112, 32, 98, 121, 32]⟩ ++ gs) ++ ⟨#[32, 119, 105, 110, 100, 111, 119, 32]⟩) ++ z1))) (w' := w12) (by go_simp) ?_
       refine ⟨HS3, ?_⟩
       refine wpAnyH_done (by kernel_rfl) ?_ _
       simp only [Act.put, List.setIfInBounds_toArray, List.set_cons_zero, List.set_cons_succ]
       have HB12 := Lib.hid (HBL.out.trans (hb12'.mono HBL.out.size))
       have TI3 := Lib.hid (TI2.out w12 hb12')
       clear hb11 hb11' hb12 hb12' HS1 HS2 HS3 TG TI1 TI2 c13 hlg
       rw [← E2.out]
       have hs2 : (text2 q).size ≤ 1125899906842624 := by rw [E2.out]; simp only [ByteArray.size_append]; have e1 : (⟨#[32, 103, 114, 111, 117, 112, 32, 98, 121, 32]⟩ : ByteArray).size = 10 := rfl; have e2 : (⟨#[32, 119, 105, 110, 100, 111, 119, 32]⟩ : ByteArray).size = 8 := rfl; omega
       generalize text2 q = t2 at hs2 HTZ ⊢
       have HRG := HO0.out.keep HB12.out
       have c11 : w12.cell? ⟨w.heap.size, 11, none⟩ = some (.int .i64 q.size) := HRG.cell rfl
       have c12 : w12.cell? ⟨w.heap.size, 12, none⟩ = some (.int .i64 q.slide) := HRG.cell rfl
       have hlg := HRG.lt
       clear HRG E2
       by_cases hse : q.slide = q.size
       ·have hse' : (q.slide != q.size) = false := by simpa using hse
        have HTF := Lib.hid (HTZ.out.trans (if_pos hse))
        have HBF := Lib.hid (below_step HB0.out HB12.out)
        clear hse
        go_wp2_with fail
        go_ret2
        exact text_good HER.out HTF.out HBF.out
       ·have hse' : (q.slide != q.size) = true := by simpa using hse
        have HTF := Lib.hid (HTZ.out.trans (if_neg hse))
        clear hse
        go_wp2_with fail
        refine (TI3.out).mono ?_
        rintro e' w13 ⟨rfl, hb13⟩
        have HBF := Lib.hid (below_step HB0.out (HB12.out.trans (hb13.mono HB12.out.size)))
        clear hb13 c11 c12
        go_wp2_with fail
        go_ret2
        exact text_good HER.out HTF.out HBF.out
end Go.Proofs.YtpbbkpfaphjdoaaGreatDoor
