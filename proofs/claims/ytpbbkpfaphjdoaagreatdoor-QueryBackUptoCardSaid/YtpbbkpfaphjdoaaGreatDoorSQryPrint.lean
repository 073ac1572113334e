/- query.Print, walked; what is plain about texts of queries and about queries that were read. -/
import Derived.Test.YtpbbkpfaphjdoaaGreatDoorSQryShown
namespace Go.Proofs.YtpbbkpfaphjdoaaGreatDoor
open Go.ChangeShapes Go.WideShapes Go.ChangeAt Go.RowKit
mutual
theorem strip_text : ∀ e : Ex, exText (strip e) = exText e
 | .mk op name v A c args pos => by rw [strip, exText, exText, strips_texts args]
theorem strips_texts : ∀ l : List Ex, exTexts (strips l) = exTexts l
 | [] => by rw [strips]
 | a :: l => by rw [strips, exTexts, exTexts, strip_text a, strips_texts l]
end
mutual
theorem strip_fits : ∀ e : Ex, fitsE e → fitsE (strip e)
 | .mk op name v A c args pos, h => by
  rw [fitsE] at h
  rw [strip, fitsE]
  exact ⟨h.1, strips_fits args h.2⟩
theorem strips_fits : ∀ l : List Ex, fitsEs l → fitsEs (strips l)
 | [], _ => by rw [strips, fitsEs]; trivial
 | a :: l, h => by
  rw [fitsEs] at h
  rw [strips, fitsEs]
  exact ⟨strip_fits a h.1, strips_fits l h.2⟩
end
theorem joinB_list (l : List ByteArray) : (joinB l).data.toList = Lib.join (l.map (·.data.toList)) [44, 32] := by simp [joinB]
theorem itoaB_list (n : Int) : (itoaB n).data.toList = Lib.itoa n := by simp [itoaB]
theorem itemX_list (e : Ex) (s : ByteArray) : (itemX e s).data.toList = itemC (strip e) s.data.toList := by
 unfold itemX itemC
 rw [strip_text]
 simp [txB, asB, qAs]
theorem aggTX_list (a : AggX) : (aggTX a).data.toList = aggT (aggP a) := by
 unfold aggTX aggT
 by_cases h : a.what.data.toList = qCount
 ·have h1 : cntQ a.what = true := by unfold cntQ; rw [Lib.toList_data]; exact beq_iff_eq.2 h
  rw [if_pos h1, if_pos (show (aggP a).what = qCount from h), h]
 ·have h1 : cntQ a.what ≠ true := by unfold cntQ; rw [Lib.toList_data]; exact fun e => h (beq_iff_eq.1 e)
  rw [if_neg h1, if_neg (show ¬ (aggP a).what = qCount from h)]
  show _ = a.what.data.toList ++ [40] ++ exText (strip a.of) ++ [41]
  rw [strip_text]
  simp [txB]
theorem items_list (q : QX) : (items1 q ++ items2 q).map (·.data.toList) = qItems (qpX q) := by
 unfold qItems items1 items2
 rw [List.map_append]
 congr 1
 ·show _ = ((strips q.cols).zip (q.names.map (·.data.toList))).map _
  rw [strips_map, List.zip_map, List.map_map, List.map_map]
  exact List.map_congr_left (fun x _ => itemX_list x.1 x.2)
 ·show _ = (q.aggs.map aggP).map itemA
  rw [List.map_map, List.map_map]
  refine List.map_congr_left (fun a _ => ?_)
  show (itemAX a).data.toList = itemA (aggP a)
  unfold itemAX itemA
  rw [← aggTX_list]
  simp [asB, qAs, aggP]
theorem text3_list (q : QX) : (text3 q).data.toList = qText (qpX q) := by
 have h0 : (text0 q).data.toList = qSelect ++ 32 :: (Lib.join (qItems (qpX q)) [44, 32] ++ 32 :: (qFrom ++ 32 :: (qpX q).from_)) := by
  rw [← items_list, ← joinB_list]
  unfold text0
  simp [qSelect, qFrom, qpX]
 have h1 : (text1 q).data.toList = (text0 q).data.toList ++ whereT (qpX q) := by
  unfold text1 whereT
  have e : hasOp' (qpX q).wher = hasOp q.wher := by
   show hasOp' (strip q.wher) = _
   unfold hasOp' hasOp
   rw [strip_op]
  rw [e]
  by_cases h : hasOp q.wher = true
  ·rw [if_pos h, if_pos h]
   show _ = _ ++ 32 :: (qWhere ++ 32 :: exText (strip q.wher))
   rw [strip_text]
   simp [qWhere, txB]
  ·rw [if_neg h, if_neg h, List.append_nil]
 unfold text3 qText groupT
 by_cases ha : q.aggs.length = 0
 ·have : (qpX q).aggs = [] := by show q.aggs.map aggP = []; rw [List.eq_nil_of_length_eq_zero ha]; rfl
  rw [if_pos ha, if_pos this, h1, h0]
  simp
 ·have : (qpX q).aggs ≠ [] := by
   intro e
   have e : q.aggs.map aggP = [] := e
   have := congrArg List.length e
   simp at this
   exact ha (by rw [this]; rfl)
  rw [if_neg ha, if_neg this]
  have h2 : (text2 q).data.toList = (text1 q).data.toList ++ 32 :: (qGroup ++ 32 :: (qBy ++ 32 :: (Lib.join (qpX q).group [44, 32] ++ 32 :: (qWindow ++ 32 :: Lib.itoa q.size)))) := by
   rw [show (qpX q).group = q.group.map (·.data.toList) from rfl, ← joinB_list, ← itoaB_list]
   unfold text2
   simp [qGroup, qBy, qWindow]
  by_cases hs : q.slide = q.size
  ·rw [if_pos hs, if_pos (show (qpX q).slide = (qpX q).size from hs), h2, h1, h0]
   simp [qpX]
  ·rw [if_neg hs, if_neg (show ¬ (qpX q).slide = (qpX q).size from hs)]
   have h3 : (text2 q ++ (⟨#[32, 115, 108, 105, 100, 101, 32]⟩ ++ itoaB q.slide)).data.toList = (text2 q).data.toList ++ 32 :: (qSlide ++ 32 :: Lib.itoa q.slide) := by
    rw [← itoaB_list]
    simp [qSlide]
   rw [h3, h2, h1, h0]
   simp [qpX]
theorem aggSameB_iff (a b : AggX) : aggSameB a b = true ↔ aggSame (aggP a) (aggP b) := by
 unfold aggSameB aggSame aggP
 simp only [Bool.and_eq_true, beq_iff_eq, Lib.toList_data, strip_same]
theorem aggsSb_iff : ∀ l m : List AggX, aggsSb l m = true ↔ aggsSame (l.map aggP) (m.map aggP)
 | [], [] => ⟨fun _ => trivial, fun _ => rfl⟩
 | [], _ :: _ => ⟨(fun h => by cases h), (fun h => by cases h)⟩
 | _ :: _, [] => ⟨(fun h => by cases h), (fun h => by cases h)⟩
 | a :: l, b :: m => by
  rw [aggsSb, Bool.and_eq_true, aggSameB_iff, aggsSb_iff l m]
  rfl
theorem sameQB_iff (x y : QX) : sameQB x y = true ↔ QSame (qpX x) (qpX y) := by
 unfold sameQB strsL
 simp only [Bool.and_eq_true, beq_iff_eq, Lib.toList_data]
 constructor
 ·rintro ⟨h1, h2, h3, h4, h5, h6, h7, h8⟩
  exact ⟨h1, h2, h3, (strip_same _ _).trans h4, (strip_sames _ _).trans h5, h6, h7, (aggsSb_iff _ _).1 h8⟩
 ·intro h
  exact ⟨h.from_, h.size, h.slide, (strip_same _ _).symm.trans h.wher, (strip_sames _ _).symm.trans h.cols, h.names, h.group, (aggsSb_iff _ _).2 h.aggs⟩
theorem firstErr_zero {f : Nat → Int} : ∀ {n : Nat}, (∀ k, k < n → f k = 0) → firstErr f n = 0
 | 0, _ => rfl
 | n + 1, h => firstErr_next (firstErr_zero (fun k hk => h k (by omega))) (h n (by omega))
theorem check_read {e : Ex} (hn : nodesErr (strip e) = 0) (hf : fullB (strip e) = false) : checkErr e = 0 := by
 rw [strip_nodes] at hn
 rw [strip_full] at hf
 unfold checkErr
 rw [hf, if_neg (by decide)]
 exact hn
theorem textErr_read {y : QX} (hq : QOk (qpX y)) (hf : fullQ (qpX y) = false) : textErrX y = 0 := by
 unfold fullQ at hf
 simp only [Bool.or_eq_false_iff] at hf
 obtain ⟨⟨f1, f2⟩, f3⟩ := hf
 rw [List.any_eq_false] at f1 f3
 have hlen : y.names.length = y.cols.length := by
  have := hq.len
  show _ = _
  simpa [qpX, strips_map] using this
 have h1 : firstErr (txE1 y) y.cols.length = 0 := firstErr_zero (fun k hk => by
  have hx : y.cols[k]? = some (y.cols[k]'hk) := List.getElem?_eq_getElem hk
  have hm : strip (y.cols[k]'hk) ∈ (qpX y).cols := by
   show _ ∈ strips y.cols
   rw [strips_map]
   exact List.mem_map_of_mem (List.getElem_mem hk)
  unfold txE1
  rw [hx]
  refine if_neg ?_
  rintro (h | h)
  ·exact h (check_read (hq.cols _ hm) (by simpa using f1 _ hm))
  ·omega)
 have h2 : firstErr (txE2 y) y.aggs.length = 0 := firstErr_zero (fun k hk => by
  have hx : y.aggs[k]? = some (y.aggs[k]'hk) := List.getElem?_eq_getElem hk
  have hm : aggP (y.aggs[k]'hk) ∈ (qpX y).aggs := List.mem_map_of_mem (List.getElem_mem hk)
  unfold txE2
  rw [hx]
  simp only
  by_cases hc : cntQ (y.aggs[k]'hk).what = true
  ·exact if_pos hc
  ·rw [if_neg hc]
   rcases (hq.aggs _ hm).2 with ⟨h, -⟩ | ⟨-, h⟩
   ·refine absurd ?_ hc
    unfold cntQ
    rw [Lib.toList_data]
    exact beq_iff_eq.2 h
   ·exact check_read h (show fullB (aggP (y.aggs[k]'hk)).of = false by simpa using f3 _ hm))
 rw [textErr_3 h1 h2]
 by_cases ho : hasOp y.wher = true
 ·rw [if_pos ho]
  rcases hq.wher with h | h
  ·have : hasOp y.wher = false := (zero_full h).1
   rw [ho] at this
   cases this
  ·exact check_read h f2
 ·exact if_neg ho
theorem fits_read {y : QX} {S : Nat → Prop} {w : World} (h : SeesQ S w y) : QFits (qpX y) := by
 refine ⟨fun e he => ?_, fun _ => strip_fits _ (fitsE_sees h.wher.see), fun a ha _ => ?_⟩
 ·have he : e ∈ strips y.cols := he
  rw [strips_map] at he
  obtain ⟨x, hx, rfl⟩ := List.mem_map.1 he
  exact strip_fits _ (fitsE_sees (h.colsAt x hx).see)
 ·obtain ⟨x, hx, rfl⟩ := List.mem_map.1 ha
  exact strip_fits _ (fitsE_sees (h.aggsAt x hx).see)
theorem join_least : ∀ ts : List (List UInt8), ts.length ≤ (Lib.join ts [44, 32]).length + 1
 | [] => Nat.zero_le _
 | x :: r => by
  rw [Lib.join_cons, List.length_append, Lib.joinTail_length]
  simp only [List.length_cons, List.length_nil]
  omega
theorem namesz_of {s : ByteArray} (h : treeName (mkB s.data.toList) = true) : s.size ≤ 8 := by
 have := name_len h
 rw [mkB_list] at this
 exact this
theorem small_read {y : QX} {s : List UInt8} (h : QryIs s (.ok (qpX y))) : SmallQ y := by
 obtain ⟨h1, h2, h3, h4⟩ := parse_len h
 have hs : s.length ≤ 400 := by
  rcases h with ⟨a, b, -, h⟩ | ⟨T, X, h1, -⟩
  ·cases h
  ·exact (lexS_ok h1).1
 have hlen : y.names.length = y.cols.length := by
  have := h2.len
  simpa [qpX, strips_map] using this
 have hI : (qItems (qpX y)).length = y.cols.length + y.aggs.length := by
  rw [← items_list]
  unfold items1 items2
  simp [hlen]
 have j1 := join_least (qItems (qpX y))
 have hq : (Lib.join (qItems (qpX y)) [44, 32]).length + (groupT (qpX y)).length ≤ (qText (qpX y)).length := by
  unfold qText
  simp
  omega
 have hg : y.group.length ≤ 1601 := by
  rcases h1.way with ⟨-, -, e, -⟩ | ⟨-, -, ha, -⟩
  ·have e : y.group.map (·.data.toList) = [] := e
   have := congrArg List.length e
   simp at this
   rw [this]
   exact Nat.zero_le _
  ·have j2 := join_least (qpX y).group
   have e : (qpX y).group.length = y.group.length := by show (y.group.map _).length = _; rw [List.length_map]
   have : (Lib.join (qpX y).group [44, 32]).length ≤ (groupT (qpX y)).length := by
    unfold groupT
    rw [if_neg ha]
    simp
    omega
   omega
 refine ⟨⟨by omega, by omega, by omega, by omega⟩, ?_, fun z hz => ?_, fun z hz => ?_, fun a ha => ?_⟩
 ·have := namesz_of h1.fromN
  omega
 ·have := namesz_of (h2.names _ (List.mem_map_of_mem (f := (·.data.toList)) hz))
  omega
 ·have := namesz_of (h2.group _ (List.mem_map_of_mem (f := (·.data.toList)) hz))
  omega
 ·have hk := h2.aggs (aggP a) (List.mem_map_of_mem ha)
  have n1 := namesz_of hk.1
  have e : a.what.size = a.what.data.toList.length := rfl
  have n2 : a.what.data.toList.length ≤ 5 := by
   rcases hk.2 with ⟨h, -⟩ | ⟨h | h | h, -⟩ <;> (have h : a.what.data.toList = _ := h; rw [h]; decide)
  omega
theorem text3_size {q : QX} (hs : SmallQ q) (hf : (∀ x ∈ q.cols, fitsE x) ∧ (∀ a ∈ q.aggs, fitsE a.of) ∧ fitsE q.wher) (hn : fits q.size ∧ fits q.slide) (h : textErrX q = 0) : (text3 q).size ≤ 1000000000000000000 := by
 have h1 : firstErr (txE1 q) q.cols.length = 0 := Classical.byContradiction fun e => by
  unfold textErrX at h; rw [if_pos e] at h; exact e h
 have h2 : firstErr (txE2 q) q.aggs.length = 0 := Classical.byContradiction fun e => by
  unfold textErrX at h; rw [h1, if_neg (by decide), if_pos e] at h; exact e h
 have h3 := (textErr_3 h1 h2).symm.trans h
 obtain ⟨l1, l2, l3, l4⟩ := hs.lens
 have k1 := join_most (l := items1 q ++ items2 q) (n := 2097152) (m := 4194304) (by
  rw [List.length_append]; unfold items1 items2; rw [List.length_map, List.length_zip, List.length_map]; omega) (items_small hs ⟨hf.1, hf.2.1⟩ h1 h2)
 have k2 := join_most (l := q.group) (n := 1048576) (m := 1048576) l3 hs.group
 have e1 : (joinB (items1 q ++ items2 q)).size = (Lib.join ((items1 q ++ items2 q).map (·.data.toList)) [44, 32]).length := by unfold joinB; rw [← size_eq]
 have e2 : (joinB q.group).size = (Lib.join (q.group.map (·.data.toList)) [44, 32]).length := by unfold joinB; rw [← size_eq]
 have b1 := itoa_small hn.1
 have b2 := itoa_small hn.2
 have c1 : (⟨#[115, 101, 108, 101, 99, 116, 32]⟩ : ByteArray).size = 7 := rfl
 have c2 : (⟨#[32, 102, 114, 111, 109, 32]⟩ : ByteArray).size = 6 := rfl
 have c3 : (⟨#[32, 119, 104, 101, 114, 101, 32]⟩ : ByteArray).size = 7 := rfl
 have c4 : (⟨#[32, 103, 114, 111, 117, 112, 32, 98, 121, 32]⟩ : ByteArray).size = 10 := rfl
 have c5 : (⟨#[32, 119, 105, 110, 100, 111, 119, 32]⟩ : ByteArray).size = 8 := rfl
 have c6 : (⟨#[32, 115, 108, 105, 100, 101, 32]⟩ : ByteArray).size = 7 := rfl
 have d0 := hs.from_
 have t0 : (text0 q).size ≤ 20000000000000 := by unfold text0; simp only [ByteArray.size_append]; omega
 have t1 : (text1 q).size ≤ 30000000000000 := by
  unfold text1
  by_cases ho : hasOp q.wher = true
  ·rw [if_pos ho] at h3 ⊢
   have := exText_small h3 hf.2.2
   simp only [ByteArray.size_append]
   omega
  ·rw [if_neg ho]; omega
 have t2 : (text2 q).size ≤ 100000000000000 := by unfold text2; simp only [ByteArray.size_append]; omega
 unfold text3
 split
 ·omega
 ·split
  ·omega
  ·simp only [ByteArray.size_append]; omega
theorem back_read {y : QX} {S : Nat → Prop} {w : World} {s : List UInt8} (h : QryIs s (.ok (qpX y))) (hy : SeesQ S w y) (hl : s.length ≤ 100) : textErrX y = 0 ∧ ∃ r, QryIs (text3 y).data.toList (.ok r) ∧ QSame r (qpX y) := by
 obtain ⟨h1, h2, h3, h4⟩ := parse_len h
 obtain ⟨r, g1, g2⟩ := qry_back h (fits_read hy) hl
 exact ⟨textErr_read h2 h3, r, by rw [text3_list]; exact g1, g2⟩
section
variable {T : List Tok} {E : Nat} {X : Nat → PR}
theorem x_one (hX : Oracle T E X) {i : Nat} (hi : i ≤ T.length) : X i = rdX T E i := (rdX_is (hX i hi) hi).symm
theorem of_one (hX : Oracle T E X) (i : Nat) : ofQ T E X i = ofQ T E (rdX T E) i := by
 unfold ofQ
 cases h : needQ T E wOpen i with
 | error k => rfl
 | ok j =>
  obtain ⟨h1, rfl⟩ := need_is h
  show (X (i + 1)).bind _ = (rdX T E (i + 1)).bind _
  rw [x_one hX (by have := isT_lt h1; omega)]
theorem agg_one (hX : Oracle T E X) (i : Nat) : aggQ T E X i = aggQ T E (rdX T E) i := by
 unfold aggQ
 rw [of_one hX]
theorem cols_one (hX : Oracle T E X) : ∀ (f : Nat) (q : QP) (i : Nat), i ≤ T.length → colsQ T E X f q i = colsQ T E (rdX T E) f q i
 | 0, q, i, hi => rfl
 | f + 1, q, i, hi => by
  rw [colsQ, colsQ, x_one hX hi]
  cases h : rdX T E i with
  | error k => rfl
  | ok p =>
   obtain ⟨x, j⟩ := p
   show (asQ T E j).bind _ = (asQ T E j).bind _
   cases h2 : asQ T E j with
   | error k => rfl
   | ok p2 =>
    obtain ⟨s, k⟩ := p2
    show (if isT T k wComma = true then _ else _) = (if isT T k wComma = true then _ else _)
    by_cases hc : isT T k wComma = true
    ·rw [if_pos hc, if_pos hc]
     exact cols_one hX f _ _ (by have := isT_lt hc; show k + 1 ≤ _; omega)
    ·rw [if_neg hc, if_neg hc]
theorem aggs_one (hX : Oracle T E X) : ∀ (f : Nat) (q : QP) (i : Nat), aggsQ T E X f q i = aggsQ T E (rdX T E) f q i
 | 0, q, i => rfl
 | f + 1, q, i => by
  rw [aggsQ, aggsQ, agg_one hX]
  cases h : aggQ T E (rdX T E) i with
  | error k => rfl
  | ok p =>
   obtain ⟨a, k⟩ := p
   show (if isT T k wComma = true then _ else _) = (if isT T k wComma = true then _ else _)
   by_cases hc : isT T k wComma = true
   ·rw [if_pos hc, if_pos hc]
    exact aggs_one hX f _ _
   ·rw [if_neg hc, if_neg hc]
theorem from_one (hX : Oracle T E X) (q : QP) (i : Nat) : fromQ T E X q i = fromQ T E (rdX T E) q i := by
 unfold fromQ
 cases h : needQ T E qFrom i with
 | error k => rfl
 | ok j =>
  show (nameQ T E j).bind _ = (nameQ T E j).bind _
  cases h2 : nameQ T E j with
  | error k => rfl
  | ok p =>
   obtain ⟨s, k⟩ := p
   show (if isT T k qWhere = true then _ else _) = (if isT T k qWhere = true then _ else _)
   by_cases hc : isT T k qWhere = true
   ·rw [if_pos hc, if_pos hc]
    show (X (k + 1)).bind _ = (rdX T E (k + 1)).bind _
    rw [x_one hX (by have := isT_lt hc; omega)]
   ·rw [if_neg hc, if_neg hc]
theorem readQ_one (hX : Oracle T E X) : readQ' T E X = readQ' T E (rdX T E) := by
 unfold readQ' itemsQ
 cases h : needQ T E qSelect 0 with
 | error k => rfl
 | ok i =>
  obtain ⟨h1, rfl⟩ := need_is h
  have := isT_lt h1
  show (if isAg T (0 + 1) = true then aggsQ T E X (T.length + 1) zeroQ (0 + 1) else colsQ T E X (T.length + 1) zeroQ (0 + 1)).bind _ = (if isAg T (0 + 1) = true then aggsQ T E (rdX T E) (T.length + 1) zeroQ (0 + 1) else colsQ T E (rdX T E) (T.length + 1) zeroQ (0 + 1)).bind _
  rw [aggs_one hX, cols_one hX _ _ _ (by omega)]
  congr 1
  funext p
  rw [from_one hX]
end
theorem qry_one {l : List UInt8} {R R' : Except (Int × Int) QP} (h : QryIs l R) (h' : QryIs l R') : R = R' := by
 rcases h with ⟨e, p, h1, rfl⟩ | ⟨T, X, h1, hX, h2⟩
 ·rcases h' with ⟨e', p', h1', rfl⟩ | ⟨T', X', h1', -⟩
  ·rw [h1] at h1'; injection h1' with a b; subst a b; rfl
  ·rw [h1] at h1'; cases h1'
 ·rcases h' with ⟨e', p', h1', rfl⟩ | ⟨T', X', h1', hX', h2'⟩
  ·rw [h1] at h1'; cases h1'
  ·rw [h1] at h1'
   injection h1' with e
   subst e
   rw [readQ_one hX] at h2
   rw [readQ_one hX'] at h2'
   rcases h2 with ⟨k, a1, rfl⟩ | ⟨q, j, a1, a2⟩
   ·rcases h2' with ⟨k', b1, rfl⟩ | ⟨q', j', b1, b2⟩
    ·rw [a1] at b1; injection b1 with b1; subst b1; rfl
    ·rw [a1] at b1; cases b1
   ·rcases h2' with ⟨k', b1, rfl⟩ | ⟨q', j', b1, b2⟩
    ·rw [a1] at b1; cases b1
    ·rw [a1] at b1
     injection b1 with b1
     injection b1 with b1 b3
     subst b1 b3
     rcases a2 with ⟨c1, rfl⟩ | ⟨c1, ⟨c2, rfl⟩ | ⟨c2, rfl⟩⟩
     ·rcases b2 with ⟨d1, rfl⟩ | ⟨d1, -⟩
      ·rfl
      ·omega
     ·rcases b2 with ⟨d1, -⟩ | ⟨d1, ⟨d2, rfl⟩ | ⟨d2, -⟩⟩
      ·omega
      ·rfl
      ·rw [c2] at d2; cases d2
     ·rcases b2 with ⟨d1, -⟩ | ⟨d1, ⟨d2, -⟩ | ⟨d2, rfl⟩⟩
      ·omega
      ·rw [c2] at d2; cases d2
      ·rfl
def BadLe {α : Type} (E : Nat) (r : Except Nat α) : Prop := ∀ k, r = .error k → k ≤ E
theorem BadLe.bind {α β : Type} {E : Nat} {r : Except Nat α} {f : α → Except Nat β} (h : BadLe E r) (h2 : ∀ x, r = .ok x → BadLe E (f x)) : BadLe E (r.bind f) := by
 cases r with
 | error k => intro j e; exact h k rfl |> fun h => by cases e; exact h
 | ok x => exact h2 x rfl
section
variable {T : List Tok} {E : Nat} {X : Nat → PR}
theorem at_le (hW : Words T E) (i : Nat) : atT T E i ≤ E := by
 unfold atT
 cases h : T[i]? with
 | none => exact Nat.le_refl _
 | some t => exact hW.at_ t (List.mem_of_getElem? h)
theorem need_le (hW : Words T E) (s : List UInt8) (i : Nat) : BadLe E (needQ T E s i) := by
 intro k h
 unfold needQ at h
 split at h
 ·cases h
 ·cases h; exact at_le hW i
theorem name_le (hW : Words T E) (i : Nat) : BadLe E (nameQ T E i) := by
 intro k h
 unfold nameQ at h
 split at h
 ·cases h
 ·cases h; exact at_le hW i
theorem num_le (hW : Words T E) (i : Nat) : BadLe E (numQ T E i) := by
 intro k h
 unfold numQ at h
 split at h
 ·split at h
  ·cases h
  ·cases h; exact at_le hW i
 ·cases h; exact at_le hW i
theorem as_le (hW : Words T E) (i : Nat) : BadLe E (asQ T E i) := (need_le hW _ _).bind (fun _ _ => name_le hW _)
theorem xq_le (hW : Words T E) (hX : Oracle T E X) {i : Nat} (hi : i ≤ T.length) : BadLe E (X i) := by
 intro k h
 obtain ⟨j, rfl⟩ := rd_bad (hX i hi) k h
 exact at_le hW j
theorem ok_le {α : Type} (x : α) : BadLe E (.ok x : Except Nat α) := fun k h => by cases h
theorem of_le (hW : Words T E) (hX : Oracle T E X) (i : Nat) : BadLe E (ofQ T E X i) := by
 unfold ofQ
 refine (need_le hW _ _).bind (fun j hj => ?_)
 obtain ⟨h1, rfl⟩ := need_is hj
 refine (xq_le hW hX (by have := isT_lt h1; omega)).bind (fun x _ => ?_)
 exact (need_le hW _ _).bind (fun _ _ => ok_le _)
theorem agg_le (hW : Words T E) (hX : Oracle T E X) (i : Nat) : BadLe E (aggQ T E X i) := by
 unfold aggQ
 split
 ·split
  ·exact (as_le hW _).bind (fun _ _ => ok_le _)
  ·exact (of_le hW hX _).bind (fun _ _ => (as_le hW _).bind (fun _ _ => ok_le _))
 ·intro k h; cases h; exact at_le hW i
theorem cols_le (hW : Words T E) (hX : Oracle T E X) (hl : T.length ≤ E) : ∀ (f : Nat) (q : QP) (i : Nat), i ≤ T.length → BadLe E (colsQ T E X f q i)
 | 0, q, i, hi => fun k h => by cases h; omega
 | f + 1, q, i, hi => by
  rw [colsQ]
  refine (xq_le hW hX hi).bind (fun x _ => (as_le hW _).bind (fun s _ => ?_))
  split
  ·rename_i hc
   exact cols_le hW hX hl f _ _ (by have := isT_lt hc; omega)
  ·exact ok_le _
theorem aggs_le (hW : Words T E) (hX : Oracle T E X) (hl : T.length ≤ E) : ∀ (f : Nat) (q : QP) (i : Nat), i ≤ T.length → BadLe E (aggsQ T E X f q i)
 | 0, q, i, hi => fun k h => by cases h; omega
 | f + 1, q, i, hi => by
  rw [aggsQ]
  refine (agg_le hW hX i).bind (fun a _ => ?_)
  split
  ·rename_i hc
   exact aggs_le hW hX hl f _ _ (by have := isT_lt hc; omega)
  ·exact ok_le _
theorem grp_le (hW : Words T E) (hl : T.length ≤ E) : ∀ (f : Nat) (q : QP) (i : Nat), i ≤ T.length → BadLe E (grpQ T E f q i)
 | 0, q, i, hi => fun k h => by cases h; omega
 | f + 1, q, i, hi => by
  rw [grpQ]
  refine (name_le hW i).bind (fun a _ => ?_)
  split
  ·rename_i hc
   exact grp_le hW hl f _ _ (by have := isT_lt hc; omega)
  ·exact ok_le _
theorem readQ_le (hW : Words T E) (hX : Oracle T E X) (hl : T.length ≤ E) : BadLe E (readQ' T E X) := by
 unfold readQ'
 refine (need_le hW _ _).bind (fun i hi => ?_)
 obtain ⟨h1, rfl⟩ := need_is hi
 have h0 := isT_lt h1
 refine BadLe.bind ?_ (fun p _ => BadLe.bind ?_ (fun q _ => ?_))
 ·unfold itemsQ
  split
  ·exact aggs_le hW hX hl _ _ _ (by omega)
  ·exact cols_le hW hX hl _ _ _ (by omega)
 ·unfold fromQ
  refine (need_le hW _ _).bind (fun j _ => (name_le hW _).bind (fun s _ => ?_))
  split
  ·rename_i hc
   exact (xq_le hW hX (by have := isT_lt hc; omega)).bind (fun _ _ => ok_le _)
  ·exact ok_le _
 ·split
  ·unfold groupQ
   refine (need_le hW _ _).bind (fun j hj => (need_le hW _ _).bind (fun k hk => ?_))
   obtain ⟨g1, rfl⟩ := need_is hj
   obtain ⟨g2, rfl⟩ := need_is hk
   refine (grp_le hW hl _ _ _ (by have := isT_lt g2; omega)).bind (fun p _ => ?_)
   unfold winQ
   refine (need_le hW _ _).bind (fun j _ => (num_le hW _).bind (fun n _ => ?_))
   split
   ·exact (num_le hW _).bind (fun _ _ => ok_le _)
   ·exact ok_le _
  ·exact ok_le _
end
theorem qry_wrong {s : List UInt8} {h p : Int} (hp : QryIs s (.error (h, p))) : h ≠ 0 ∧ 0 ≤ p ∧ p ≤ s.length := by
 rcases hp with ⟨a, b, h1, h2⟩ | ⟨T, X, h1, hX, h2⟩
 ·cases h2
  obtain ⟨g1, g2⟩ := lexS_bad h1
  exact ⟨g1, by omega, by omega⟩
 have hW := words_of h1
 rcases h2 with ⟨k, h2, h3⟩ | ⟨q, j, h2, ⟨-, h3⟩ | ⟨-, ⟨-, h3⟩ | ⟨-, h3⟩⟩⟩
 ·cases h3
  have hl : T.length ≤ s.length := by
   obtain ⟨-, hc⟩ := lexS_ok h1
   have := hc.count
   omega
  have := readQ_le hW hX hl k h2
  exact ⟨by decide, by omega, by omega⟩
 ·cases h3
  have := at_le hW j
  exact ⟨by decide, by omega, by omega⟩
 ·cases h3
  exact ⟨by decide, by omega, by omega⟩
 ·cases h3
theorem own2f_put {w : World} {b : Nat} {h p : Int} (hw : Own2F w b 0 0) : Own2F ((w.setCell ⟨b, 0, none⟩ (.int .i64 h)).setCell ⟨b, 1, none⟩ (.int .i64 p)) b h p := by
 unfold Own2F
 have h1 : (w.setCell ⟨b, 0, none⟩ (.int .i64 h)).heap[b]? = some (.cells #[.int .i64 h, .int .i64 0] 34 (0, 0)) := by
  rw [heap_setCell_same _ _ _ _ _ _ hw]; rfl
 rw [heap_setCell_same _ _ _ _ _ _ h1]
 rfl
theorem pair_boxP (wr : World) (y : QX) (h q : Int) : ∃ ws wt0 wt, wr.alloc (.cells #[.string y.from_, .string y.wher.op, .string y.wher.name, .int .i64 y.wher.val.type, .int .i64 y.wher.val.n, .string y.wher.val.s, .slice y.wher.A y.wher.args.length y.wher.c, .int .i64 y.wher.pos, .slice y.CA y.cols.length y.cc, .slice y.NA y.names.length y.nc, .slice y.GA y.group.length y.gc, .int .i64 y.size, .int .i64 y.slide, .slice y.AA y.aggs.length y.ac] 30) = ws ∧ ws.alloc (.cells #[.int .i64 0, .int .i64 0] 34) = wt0 ∧
  (wt0.setCell ⟨wr.heap.size + 1, 0, none⟩ (.int .i64 h)).setCell ⟨wr.heap.size + 1, 1, none⟩ (.int .i64 q) = wt ∧ Own2F wt0 (wr.heap.size + 1) 0 0 ∧ RowL wt wr.heap.size 30 (qxL y) ∧ Own2F wt (wr.heap.size + 1) h q ∧ Below wr.heap.size wr wt := by
 obtain ⟨ws, hws, ho9, hb9⟩ := box_q wr y
 have hsz : ws.heap.size = wr.heap.size + 1 := by rw [← hws]; show (wr.heap.push _).size = _; exact Array.size_push _
 obtain ⟨wt0, hwt0⟩ : ∃ wt0, ws.alloc (.cells #[.int .i64 0, .int .i64 0] 34) = wt0 := ⟨_, rfl⟩
 have hb10 : Below ws.heap.size ws wt0 := by rw [← hwt0]; exact belowNew' _ _
 have ho100 : Own2F wt0 (wr.heap.size + 1) 0 0 := by rw [← hwt0, ← hsz]; exact own2f_new ws _ _
 have ho10 := own2f_put (h := h) (p := q) ho100
 have hn10 : Only (fun k => k = wr.heap.size + 1) wt0 ((wt0.setCell ⟨wr.heap.size + 1, 0, none⟩ (.int .i64 h)).setCell ⟨wr.heap.size + 1, 1, none⟩ (.int .i64 q)) := ((Only.refl (fun k => k = wr.heap.size + 1) wt0).setCell (p := ⟨wr.heap.size + 1, 0, none⟩) rfl _).setCell (p := ⟨wr.heap.size + 1, 1, none⟩) rfl _
 have hb11 : Below ws.heap.size ws _ := hb10.trans (hn10.below hb10.size (fun k e => by have e' : k = wr.heap.size + 1 := e; omega))
 exact ⟨ws, wt0, _, hws, hwt0, rfl, ho100, ho9.keep hb11, ho10, below_step hb9 hb11⟩
structure TabsQ (w : World) : Prop where
 tab : Tables w
 text : TextT w
 num : NumT w
 signs : SignsT w
 aggs : AggsT w
theorem TabsQ.keep {w w' : World} (h : TabsQ w) (hb : Below w.heap.size w w') : TabsQ w' := ⟨h.tab.keep hb, h.text.keep hb, h.num.keep hb, h.signs.keep hb, h.aggs.keep hb⟩
def OkSame (R : Except (Int × Int) QP) (q : QX) : Prop := ∃ p, R = .ok p ∧ QSame p (qpX q)
def PrintQSays (q : QX) (R : Except (Int × Int) QP) (w : World) (r : Ending) (w' : World) : Prop :=
 Below w.heap.size w w' ∧ ((textErrX q = 0 ∧ OkSame R q ∧ r = .returned (.tuple #[.string (text3 q), .nilIface])) ∨ (¬ (textErrX q = 0 ∧ OkSame R q) ∧ r = .returned (.tuple #[.string ⟨#[]⟩, .iface 32 (.int .i64 2)])))
set_option maxHeartbeats 16000000 in
set_option maxRecDepth 100000 in
theorem printQ_any (q : QX) (R : Except (Int × Int) QP) (hR : QryIs (text3 q).data.toList R) (w : World) (hq : SeesQ (fun _ => True) w q) (hsm : SmallQ q) (hT : TabsQ w) : Calls Tryz.prog 9 #[qxV q] w (PrintQSays q R w) := by
 obtain ⟨w0, hw0, ho0, hb0⟩ := box_q w q
 have HT := Lib.hid (hT.keep hb0)
 have HQ := Lib.hid (hq.keep (.of_below hb0))
 have T1 := Lib.hid (text_any q w0 HQ.out hsm HT.out.tab.lev HT.out.tab.words HT.out.text)
 have HSZ := Lib.hid (fun h : textErrX q = 0 => text3_size hsm ⟨fun x hx => fitsE_sees (hq.colsAt x hx).see, fun a ha => fitsE_sees (hq.aggsAt a ha).see, fitsE_sees hq.wher.see⟩ hq.nums h)
 have HB0 := Lib.hid hb0
 have HO0 := Lib.hid ho0
 have HW0 := Lib.hid hw0
 have HR := Lib.hid hR
 have c0 : w0.cell? ⟨w.heap.size, 0, none⟩ = some (.string q.from_) := ho0.cell rfl
 have c1 : w0.cell? ⟨w.heap.size, 1, none⟩ = some (.string q.wher.op) := ho0.cell rfl
 have c2 : w0.cell? ⟨w.heap.size, 2, none⟩ = some (.string q.wher.name) := ho0.cell rfl
 have c3 : w0.cell? ⟨w.heap.size, 3, none⟩ = some (.int .i64 q.wher.val.type) := ho0.cell rfl
 have c4 : w0.cell? ⟨w.heap.size, 4, none⟩ = some (.int .i64 q.wher.val.n) := ho0.cell rfl
 have c5 : w0.cell? ⟨w.heap.size, 5, none⟩ = some (.string q.wher.val.s) := ho0.cell rfl
 have c6 : w0.cell? ⟨w.heap.size, 6, none⟩ = some (.slice q.wher.A q.wher.args.length q.wher.c) := ho0.cell rfl
 have c7 : w0.cell? ⟨w.heap.size, 7, none⟩ = some (.int .i64 q.wher.pos) := ho0.cell rfl
 have c8 : w0.cell? ⟨w.heap.size, 8, none⟩ = some (.slice q.CA q.cols.length q.cc) := ho0.cell rfl
 have c9 : w0.cell? ⟨w.heap.size, 9, none⟩ = some (.slice q.NA q.names.length q.nc) := ho0.cell rfl
 have c10 : w0.cell? ⟨w.heap.size, 10, none⟩ = some (.slice q.GA q.group.length q.gc) := ho0.cell rfl
 have c11 : w0.cell? ⟨w.heap.size, 11, none⟩ = some (.int .i64 q.size) := ho0.cell rfl
 have c12 : w0.cell? ⟨w.heap.size, 12, none⟩ = some (.int .i64 q.slide) := ho0.cell rfl
 have c13 : w0.cell? ⟨w.heap.size, 13, none⟩ = some (.slice q.AA q.aggs.length q.ac) := ho0.cell rfl
 have hl0 := ho0.lt
 clear hq hw0 ho0 hb0 hsm hT hR
 unfold qxV TextSaysX at T1
 unfold qxV
 by_cases he : textErrX q = 0
 rotate_left
 ·have HNE := Lib.hid (show ¬ (textErrX q = 0 ∧ OkSame R q) from fun h => he h.1)
  rw [if_neg he, errV_ne he] at T1
  generalize textErrX q = re at T1
  clear he
  go_enter Tryz.func9, Tryz.ntmps9
  go_wp2_with (first | rw [HW0.out])
  refine (T1.out).mono ?_
  rintro e w1 ⟨rfl, hb1⟩
  have HBF := Lib.hid (below_step HB0.out hb1)
  clear hb1
  go_wp2_with fail
  go_ret2
  exact ⟨HBF.out, Or.inr ⟨HNE.out, rfl⟩⟩
 rw [if_pos he, he, errV_zero] at T1
 have HE := Lib.hid he
 have HTS := Lib.hid (HSZ.out he)
 obtain ⟨tx, htx⟩ : ∃ tx, text3 q = tx := ⟨_, rfl⟩
 rw [htx] at T1 HTS HR
 have HTX := Lib.hid htx
 have T2 := Lib.hid (fun w' (hb : Below w0.heap.size w0 w') => qParse_any tx (by have := HTS.out; unfold maxLen; omega) HR.out w' (HT.out.keep hb).tab.lev (HT.out.keep hb).tab.words (HT.out.keep hb).text (HT.out.keep hb).num (HT.out.keep hb).signs (HT.out.keep hb).aggs)
 clear he htx HSZ
 go_enter Tryz.func9, Tryz.ntmps9
 go_wp2_with (first | rw [HW0.out])
 refine (T1.out).mono ?_
 rintro e w1 ⟨rfl, hb1⟩
 have HB1 := Lib.hid hb1
 clear hb1 T1 c0 c1 c2 c3 c4 c5 c6 c7 c8 c9 c10 c11 c12 c13 hl0
 have T3 := Lib.hid (T2.out w1 HB1.out)
 clear T2
 go_wp2_with fail
 refine (T3.out).mono ?_
 rintro e w2 ⟨hb2, hc2⟩
 have HB2 := Lib.hid (HB1.out.trans (hb2.mono HB1.out.size))
 clear hb2 T3
 cases R with
 | error hp =>
  obtain ⟨rh, rp⟩ := hp
  have hc2 : e = .returned (.tuple #[qxV zeroQX, faultV rh rp]) := hc2
  obtain ⟨y, hy⟩ : ∃ y, zeroQX = y := ⟨_, rfl⟩
  rw [hy] at hc2
  subst hc2
  have HNE := Lib.hid (show ¬ (textErrX q = 0 ∧ OkSame (.error (rh, rp)) q) from fun h => by obtain ⟨p, h, -⟩ := h.2; cases h)
  have q0 : (rh != 0) = true := by simpa using (qry_wrong HR.out).1
  clear hy
  unfold qxV faultV
  obtain ⟨ws, wt0, w3, hws, hwt0, hwt, hz0, hoy, hof, hbt⟩ := pair_boxP w2 y rh rp
  obtain ⟨z0, z1⟩ := hz0.cells
  obtain ⟨zf0, zf1⟩ := hz0.frees
  have zl := hz0.lt
  obtain ⟨f0, f1⟩ := hof.cells
  have hlf := hof.lt
  have HBF := Lib.hid (below_step HB0.out (HB2.out.trans (hbt.mono HB2.out.size)))
  have HWS := Lib.hid hws
  have HWT0 := Lib.hid hwt0
  have HWT := Lib.hid hwt
  clear hws hwt0 hwt hz0 hoy hof hbt
  go_wp2_with (first | rw [HWS.out] | rw [HWT0.out] | rw [HWT.out])
  go_ret2
  exact ⟨HBF.out, Or.inr ⟨HNE.out, rfl⟩⟩
 | ok p =>
  obtain ⟨y, rfl, hsy, hqp⟩ := hc2
  have HQP := Lib.hid hqp
  unfold qxV faultV
  obtain ⟨rh, hrh⟩ : ∃ rh : Int, rh = 0 := ⟨0, rfl⟩
  obtain ⟨rp, hrp⟩ : ∃ rp : Int, rp = 0 := ⟨0, rfl⟩
  rw [show (Value.agg #[Value.int .i64 0, Value.int .i64 0]) = .agg #[.int .i64 rh, .int .i64 rp] by rw [hrh, hrp]]
  have q0 : (rh != 0) = false := by rw [hrh]; rfl
  clear hrh hrp hqp
  obtain ⟨ws, wt0, w3, hws, hwt0, hwt, hz0, hoy, hof, hbt⟩ := pair_boxP w2 y rh rp
  obtain ⟨z0, z1⟩ := hz0.cells
  obtain ⟨zf0, zf1⟩ := hz0.frees
  have zl := hz0.lt
  obtain ⟨f0, f1⟩ := hof.cells
  have hlf := hof.lt
  have y0 : w3.cell? ⟨w2.heap.size, 0, none⟩ = some (.string y.from_) := hoy.cell rfl
  have y1 : w3.cell? ⟨w2.heap.size, 1, none⟩ = some (.string y.wher.op) := hoy.cell rfl
  have y2 : w3.cell? ⟨w2.heap.size, 2, none⟩ = some (.string y.wher.name) := hoy.cell rfl
  have y3 : w3.cell? ⟨w2.heap.size, 3, none⟩ = some (.int .i64 y.wher.val.type) := hoy.cell rfl
  have y4 : w3.cell? ⟨w2.heap.size, 4, none⟩ = some (.int .i64 y.wher.val.n) := hoy.cell rfl
  have y5 : w3.cell? ⟨w2.heap.size, 5, none⟩ = some (.string y.wher.val.s) := hoy.cell rfl
  have y6 : w3.cell? ⟨w2.heap.size, 6, none⟩ = some (.slice y.wher.A y.wher.args.length y.wher.c) := hoy.cell rfl
  have y7 : w3.cell? ⟨w2.heap.size, 7, none⟩ = some (.int .i64 y.wher.pos) := hoy.cell rfl
  have y8 : w3.cell? ⟨w2.heap.size, 8, none⟩ = some (.slice y.CA y.cols.length y.cc) := hoy.cell rfl
  have y9 : w3.cell? ⟨w2.heap.size, 9, none⟩ = some (.slice y.NA y.names.length y.nc) := hoy.cell rfl
  have y10 : w3.cell? ⟨w2.heap.size, 10, none⟩ = some (.slice y.GA y.group.length y.gc) := hoy.cell rfl
  have y11 : w3.cell? ⟨w2.heap.size, 11, none⟩ = some (.int .i64 y.size) := hoy.cell rfl
  have y12 : w3.cell? ⟨w2.heap.size, 12, none⟩ = some (.int .i64 y.slide) := hoy.cell rfl
  have y13 : w3.cell? ⟨w2.heap.size, 13, none⟩ = some (.slice y.AA y.aggs.length y.ac) := hoy.cell rfl
  have hly := hoy.lt
  have HB3 := Lib.hid (HB2.out.trans (hbt.mono HB2.out.size))
  have HRQ := HO0.out.keep HB3.out
  have c0 : w3.cell? ⟨w.heap.size, 0, none⟩ = some (.string q.from_) := HRQ.cell rfl
  have c1 : w3.cell? ⟨w.heap.size, 1, none⟩ = some (.string q.wher.op) := HRQ.cell rfl
  have c2 : w3.cell? ⟨w.heap.size, 2, none⟩ = some (.string q.wher.name) := HRQ.cell rfl
  have c3 : w3.cell? ⟨w.heap.size, 3, none⟩ = some (.int .i64 q.wher.val.type) := HRQ.cell rfl
  have c4 : w3.cell? ⟨w.heap.size, 4, none⟩ = some (.int .i64 q.wher.val.n) := HRQ.cell rfl
  have c5 : w3.cell? ⟨w.heap.size, 5, none⟩ = some (.string q.wher.val.s) := HRQ.cell rfl
  have c6 : w3.cell? ⟨w.heap.size, 6, none⟩ = some (.slice q.wher.A q.wher.args.length q.wher.c) := HRQ.cell rfl
  have c7 : w3.cell? ⟨w.heap.size, 7, none⟩ = some (.int .i64 q.wher.pos) := HRQ.cell rfl
  have c8 : w3.cell? ⟨w.heap.size, 8, none⟩ = some (.slice q.CA q.cols.length q.cc) := HRQ.cell rfl
  have c9 : w3.cell? ⟨w.heap.size, 9, none⟩ = some (.slice q.NA q.names.length q.nc) := HRQ.cell rfl
  have c10 : w3.cell? ⟨w.heap.size, 10, none⟩ = some (.slice q.GA q.group.length q.gc) := HRQ.cell rfl
  have c11 : w3.cell? ⟨w.heap.size, 11, none⟩ = some (.int .i64 q.size) := HRQ.cell rfl
  have c12 : w3.cell? ⟨w.heap.size, 12, none⟩ = some (.int .i64 q.slide) := HRQ.cell rfl
  have c13 : w3.cell? ⟨w.heap.size, 13, none⟩ = some (.slice q.AA q.aggs.length q.ac) := HRQ.cell rfl
  have hlq := HRQ.lt
  have HWS := Lib.hid hws
  have HWT0 := Lib.hid hwt0
  have HWT := Lib.hid hwt
  have T4 := Lib.hid (sameQ_any y q w3 ((hsy.keep (.of_below hbt)).mono (fun _ _ => trivial)) (HQ.out.keep (.of_below HB3.out)))
  unfold qxV at T4
  obtain ⟨g, hg⟩ : ∃ g, sameQB y q = g := ⟨_, rfl⟩
  rw [hg] at T4
  have HG := Lib.hid hg
  clear hws hwt0 hwt hz0 hoy hof hbt hsy HRQ hg
  cases g with
  | true =>
   have HOK := Lib.hid (show OkSame (.ok p) q from ⟨p, rfl, by rw [← HQP.out]; exact (sameQB_iff y q).1 HG.out⟩)
   go_wp2_with (first | rw [HWS.out] | rw [HWT0.out] | rw [HWT.out])
   refine (T4.out).mono ?_
   rintro e w4 ⟨rfl, hb4⟩
   have HBF := Lib.hid (below_step HB0.out (HB3.out.trans (hb4.mono HB3.out.size)))
   clear hb4
   go_wp2_with fail
   go_ret2
   exact ⟨HBF.out, Or.inl ⟨HE.out, HOK.out, by rw [HTX.out]; rfl⟩⟩
  | false =>
   have HNE := Lib.hid (show ¬ (textErrX q = 0 ∧ OkSame (.ok p) q) from fun h => by
    obtain ⟨p', h1, h2⟩ := h.2
    injection h1 with h1
    subst h1
    rw [← HQP.out] at h2
    have := (sameQB_iff y q).2 h2
    rw [HG.out] at this
    cases this)
   go_wp2_with (first | rw [HWS.out] | rw [HWT0.out] | rw [HWT.out])
   refine (T4.out).mono ?_
   rintro e w4 ⟨rfl, hb4⟩
   have HBF := Lib.hid (below_step HB0.out (HB3.out.trans (hb4.mono HB3.out.size)))
   clear hb4
   go_wp2_with fail
   go_ret2
   exact ⟨HBF.out, Or.inr ⟨HNE.out, rfl⟩⟩
end Go.Proofs.YtpbbkpfaphjdoaaGreatDoor
