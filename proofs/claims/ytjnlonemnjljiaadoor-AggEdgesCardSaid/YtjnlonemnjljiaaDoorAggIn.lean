/- An accumulator within its own span of blocks: what each call makes of it. -/
import Derived.Test.YtjnlonemnjljiaaDoorAggSum
import Derived.Test.YtjnlonemnjljiaaDoorAggMade
import Derived.Test.YtjnlonemnjljiaaDoorAggJoin
namespace Go.Proofs.YtjnlonemnjljiaaDoor
open Go.ChangeShapes Go.WideShapes Go.ChangeAt Go.RowKit

/-- The blocks from lo up to hi. -/
def Span (lo hi k : Nat) : Prop := lo ≤ k ∧ k < hi
structure AccIn (w : World) (lo hi c : Nat) (A : Option Addr) (ks : List Kd) (rows : List (List Val)) : Prop where
  at_ : AccAt w lo lo A c (onesOf ks rows) rows.length
  feet : ∀ k, foot lo A ks.length c k → Span lo hi k
  good : goodFor ks rows
  fit : allFit rows
theorem goodFor_append : ∀ (ks : List Kd) (r1 r2 : List (List Val)), goodFor ks r1 → goodFor ks r2 → goodFor ks (r1 ++ r2)
  | [], _, _, _, _ => trivial
  | k :: ks, r1, r2, h1, h2 => by
    refine ⟨?_, ?_⟩
    · rcases h1.1 with hc | h3
      · exact Or.inl hc
      · rcases h2.1 with hc | h4
        · exact Or.inl hc
        · refine Or.inr fun v hv => ?_
          rw [List.map_append] at hv
          exact (List.mem_append.1 hv).elim (h3 v) (h4 v)
    · rw [List.map_append]; exact goodFor_append ks _ _ h1.2 h2.2
def addGood (ks : List Kd) (rows : List (List Val)) (r : List Val) : List (List Val) := if rowFault ks r = 0 then rows ++ [r] else rows
theorem addGood_len (ks : List Kd) (rows : List (List Val)) (r : List Val) : (addGood ks rows r).length ≤ rows.length + 1 := by
  unfold addGood; split <;> simp
section
variable {w w' : World} {lo hi c : Nat} {A : Option Addr} {ks : List Kd} {rows : List (List Val)}
theorem AccIn.lt (h : AccIn w lo hi c A ks rows) : lo < hi := (h.feet lo (Or.inl rfl)).2
theorem AccIn.keep (h : AccIn w lo hi c A ks rows) (hb : Below w.heap.size w w') : AccIn w' lo hi c A ks rows := ⟨h.at_.keep hb, h.feet, h.good, h.fit⟩
theorem AccIn.other {lo2 hi2 : Nat} (h : AccIn w lo hi c A ks rows) (hy : Only (Span lo2 hi2) w w') (hd : hi ≤ lo2 ∨ hi2 ≤ lo) : AccIn w' lo hi c A ks rows := by
  refine ⟨h.at_.other hy (fun hs => ?_) (fun k hk hs => ?_), h.feet, h.good, h.fit⟩
  · have h1 := h.lt
    unfold Span at hs
    omega
  · rw [onesOf_length] at hk
    have h1 := h.feet k (Or.inr hk)
    unfold Span at hs h1
    omega
theorem AccIn.mid (h : AccIn w lo hi c A ks rows) (hn : rows.length ≤ 1000) : Mid (onesOf ks rows) := ones_small ks rows h.fit hn
/-- Its own turn: what is Below. -/
theorem span_below {B : Nat} (hy : Only (Span lo hi) w w') (hB : B ≤ lo) (hs : B ≤ w.heap.size) : Below B w w' := hy.below hs fun _ hk => Nat.le_trans hB hk.1
end

theorem new_in {A0 T0 : Option Addr} {n c m tc : Nat} {l : List AggH} {ts : List Int} {w : World} (hl : SeesAggs w A0 n c l) (ht : Sees w T0 m tc 1 (intCells ts)) (h : newFault l ts = 0) :
    Calls Tryd.prog 9 #[.slice A0 n c, .slice T0 m tc] w fun e w' => (∃ A c, e = .returned (.tuple #[.pointer (some ⟨w.heap.size, 0, none⟩), .nilIface]) ∧ AccIn w' w.heap.size w'.heap.size c A (kdsOf l ts) []) ∧ Below w.heap.size w w' := by
  refine (new_any A0 T0 n c m tc l ts w hl ht).mono ?_
  rintro e w' ⟨h1, h2⟩
  rw [h, if_pos rfl] at h1
  obtain ⟨A, c, rfl, ha⟩ := h1
  refine ⟨⟨A, c, rfl, ha, fun k hk => ?_, goodFor_nil _, fun r hr => by cases hr⟩, h2⟩
  rcases hk with rfl | hk
  · exact ⟨Nat.le_refl _, ha.lt⟩
  · exact ha.own.lt k (by rw [onesOf_length]; exact hk)
theorem new_no {A0 T0 : Option Addr} {n c m tc : Nat} {l : List AggH} {ts : List Int} {w : World} {k : Int} (hl : SeesAggs w A0 n c l) (ht : Sees w T0 m tc 1 (intCells ts)) (h : newFault l ts = k) (hk : k ≠ 0) :
    Calls Tryd.prog 9 #[.slice A0 n c, .slice T0 m tc] w fun e w' => e = .returned (.tuple #[.pointer none, .iface 78 (.int .i64 k)]) ∧ Below w.heap.size w w' := by
  refine (new_any A0 T0 n c m tc l ts w hl ht).mono ?_
  rintro e w' ⟨h1, h2⟩
  rw [h, if_neg hk, errV_ne hk] at h1
  exact ⟨h1, h2⟩
theorem put_in (lo hi c m cv : Nat) (A V : Option Addr) (ks : List Kd) (rows : List (List Val)) (r : List Val) (w : World) (h : AccIn w lo hi c A ks rows) (hV : SeesVals w V m cv r) (hw : ∀ v ∈ r, v.wf) (hn : rows.length ≤ 100)
    (hfar : 0 < m → ∀ ad, V = some ad → ¬ Span lo hi ad.block) :
    Calls Tryd.prog 12 #[.pointer (some ⟨lo, 0, none⟩), .slice V m cv] w fun e w' => e = .returned (errV (rowFault ks r)) ∧ AccIn w' lo hi c A ks (addGood ks rows r) ∧ Only (Span lo hi) w w' := by
  refine (put_any lo lo c rows.length m cv A V (onesOf ks rows) r w h.at_ hV hw (h.mid (by omega)) (by omega) (fun h0 ad e hf => hfar h0 ad e (h.feet _ (by rw [onesOf_length] at hf; exact hf)))).mono ?_
  rintro e w' ⟨he, hy, ha⟩
  rw [kds_ones] at he ha
  rw [onesOf_length] at hy
  refine ⟨he, ?_, hy.mono h.feet⟩
  unfold addGood
  by_cases hz : rowFault ks r = 0
  · have hlen : r.length = ks.length := rowFault_len hz
    have hfa : faultAt ks r = 0 := by unfold rowFault at hz; rwa [if_neg (by simpa using hlen)] at hz
    rw [if_pos hz, addRow_ones _ _ _ hlen] at ha
    rw [if_pos hz]
    refine ⟨by rw [List.length_append]; exact ha, h.feet, fault_good ks rows r h.good hlen hfa, fun q hq v hv => ?_⟩
    rcases List.mem_append.1 hq with hq | hq
    · exact h.fit q hq v hv
    · rw [List.mem_singleton.1 hq] at hv
      exact (hw v hv).2.1
  · rw [if_neg hz] at ha
    rw [if_neg hz]
    exact ⟨ha, h.feet, h.good, h.fit⟩
theorem result_in (lo hi c : Nat) (A : Option Addr) (ks : List Kd) (rows : List (List Val)) (w : World) (h : AccIn w lo hi c A ks rows) (hk : ks.length ≤ 1000) :
    Calls Tryd.prog 10 #[.pointer (some ⟨lo, 0, none⟩)] w (ResultSays (onesOf ks rows) rows.length w) :=
  resultAll_any lo lo c rows.length A (onesOf ks rows) w h.at_ (by rw [onesOf_length]; exact hk)

/-- Of rows that are the same but for their order the same comes. -/
theorem sumN_perm {l m : List Val} (h : l.Perm m) : sumN l = sumN m := by
  induction h with
  | nil => rfl
  | cons x _ ih => rw [sumN, sumN, ih]
  | swap x y l => rw [sumN, sumN, sumN, sumN]; omega
  | trans _ _ h1 h2 => exact h1.trans h2
theorem bestOf_perm {wh : ByteArray} {t : Int} {l m : List Val} (hw : isLeast wh = true ∨ isMost wh = true) (h : l.Perm m) (hl : ∀ v ∈ l, vcheck v = 0 ∧ v.type = t) : bestOf wh l = bestOf wh m := by
  by_cases h0 : l = []
  · subst h0
    rw [List.Perm.nil_eq h]
  · have hm0 : m ≠ [] := fun e => h0 (by rw [e] at h; exact List.Perm.eq_nil h)
    have hm : ∀ v ∈ m, vcheck v = 0 ∧ v.type = t := fun v hv => hl v (h.mem_iff.2 hv)
    have b1 := bestOf_mem wh l h0
    have b2 := bestOf_mem wh m hm0
    have s1 := bestOf_stays wh t l (fun v hv => (hl v hv).2) (bestOf wh m) (h.mem_iff.2 b2)
    have s2 := bestOf_stays wh t m (fun v hv => (hm v hv).2) (bestOf wh l) (h.mem_iff.1 b1)
    have ht := (hl _ b1).2.trans (hm _ b2).2.symm
    refine vorder_zero (hl _ b1).1 (hm _ b2).1 ht ?_
    have ha := vorder_anti ht
    rw [stays_eq wh _ _ ht] at s1
    rw [stays_eq wh _ _ ht.symm] at s2
    rcases hw with hw | hw
    · rw [hw] at s1 s2
      simp at s1 s2
      omega
    · have hnl : isLeast wh = false := by
        cases e : isLeast wh with
        | false => rfl
        | true => rw [least_not_most e] at hw; cases hw
      rw [hnl, hw] at s1 s2
      simp at s1 s2
      omega
theorem onesRes_perm : ∀ (ks : List Kd) {r1 r2 : List (List Val)} (n : Nat), (∀ k ∈ ks, kdFault k = 0) → goodFor ks r1 → r1.Perm r2 → onesRes (onesOf ks r1) n = onesRes (onesOf ks r2) n
  | [], _, _, _, _, _, _ => rfl
  | k :: ks, r1, r2, n, hk, hg, hp => by
    rw [onesOf, onesOf, onesRes, onesRes]
    have e1 : oneRes (oneAt k (r1.map (·.headD noVal))) n = oneRes (oneAt k (r2.map (·.headD noVal))) n := by
      have hpm := hp.map (·.headD noVal)
      by_cases hc : isCount k.what
      · rw [oneRes_count hc, oneRes_count hc]
      · rcases kdFault_word (hk k List.mem_cons_self) hc with ⟨hs, _⟩ | ⟨hs, hw⟩
        · rw [oneRes_sum hc hs, oneRes_sum hc hs, sumN_perm hpm]
        · rw [oneRes_edge hc hs, oneRes_edge hc hs, bestOf_perm hw hpm (hg.1.resolve_left hc)]
    have e2 := onesRes_perm ks n (fun q hq => hk q (List.mem_cons_of_mem _ hq)) hg.2 (hp.map List.tail)
    rw [e1, e2]
end Go.Proofs.YtjnlonemnjljiaaDoor
