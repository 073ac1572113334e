/- row.Schema, walked. -/
import Derived.Test.YteoheaahlokdiaaDoorRowBase
namespace Go.Proofs.YteoheaahlokdiaaDoor
open Go.ChangeShapes Go.WideShapes Go.ChangeAt Go.RowKit

/-- The first that is not 0 of so many, from the left. -/
def firstErr (f : Nat → Int) : Nat → Int
  | 0 => 0
  | n + 1 => if firstErr f n = 0 then f n else firstErr f n
theorem firstErr_hit {f : Nat → Int} {k : Nat} (h : firstErr f k = 0) (hk : f k ≠ 0) : ∀ m, k < m → firstErr f m = f k
  | 0, h' => by omega
  | m + 1, h' => by
    by_cases e : k = m
    · subst e; simp [firstErr, h]
    · have ih := firstErr_hit h hk m (by omega)
      unfold firstErr; rw [ih, if_neg hk]
theorem firstErr_next {f : Nat → Int} {k : Nat} (h : firstErr f k = 0) (hk : f k = 0) : firstErr f (k + 1) = 0 := by simp [firstErr, h, hk]

def schemaAt (l : List Col) (k : Nat) : Int := match l[k]? with
  | none => 0
  | some c => if nameOk c.name.data.toList = false then 2 else if ¬ (1 ≤ c.type ∧ c.type ≤ 3) then 1 else if 0 ≤ findCol (l.take k) c.name then 7 else 0
def schemaErr (l : List Col) : Int := if l.length = 0 then 5 else if 6 < l.length then 4 else firstErr (schemaAt l) l.length

theorem colsCells_take (l : List Col) (k : Nat) : colsCells (l.take k) = (colsCells l).take (k * 2) := by
  induction l generalizing k with
  | nil => simp [colsCells]
  | cons c l ih =>
    cases k with
    | zero => simp [colsCells]
    | succ k =>
      have e : colsCells (c :: l) = .string c.name :: .int .i64 c.type :: colsCells l := rfl
      have e2 : colsCells ((c :: l).take (k + 1)) = .string c.name :: .int .i64 c.type :: colsCells (l.take k) := rfl
      rw [e, e2, ih, show (k + 1) * 2 = k * 2 + 1 + 1 by omega]
      rfl
theorem SeesCols.take {w : World} {A : Option Addr} {n c k : Nat} {l : List Col} (h : SeesCols w A n c l) (hk : k ≤ n) : SeesCols w A k c (l.take k) := by
  obtain ⟨h0, h1, h2, h3, h4, h5⟩ := h
  refine ⟨by rw [List.length_take]; omega, by rw [colsCells_take, List.length_take]; omega, by omega, h3, fun e => ?_, fun hp => ?_⟩
  · have := h4 e; omega
  · obtain ⟨g, o, e, hg, hc⟩ := h5 (by omega)
    refine ⟨g, o, e, hg, fun j u hu => hc j u ?_⟩
    rw [colsCells_take, List.getElem?_take] at hu
    split at hu
    · exact hu
    · cases hu


set_option maxHeartbeats 1000000 in
set_option maxRecDepth 100000 in
theorem rschema_any (l : List Col) (A : Option Addr) (n c : Nat) (w : World) (hl : SeesCols w A n c l) (hs : ∀ x ∈ l, x.name.size ≤ maxLen) :
    Calls Tryd.prog 60 #[.slice A n c] w fun e w' => e = .returned (errV (schemaErr l)) ∧ Below w.heap.size w w' := by
  have HL := Lib.hid hl
  have HS := Lib.hid hs
  have hcap := hl.2.2.1
  have hmax := hl.2.2.2.1
  have hlen := hl.1
  unfold maxLen at hmax
  clear hl hs
  by_cases h0 : n = 0
  · subst h0
    have E : Hid (errV (schemaErr l) = .iface 73 (.int .i64 5)) := by unfold schemaErr; rw [if_pos hlen]; rfl
    clear hlen
    go_enter Tryd.func60, Tryd.ntmps60
    go_wp2
    go_ret
    exact ⟨by rw [E.out]; rfl, Below.refl _ _⟩
  · by_cases h6 : 6 < n
    · have E : Hid (errV (schemaErr l) = .iface 73 (.int .i64 4)) := by unfold schemaErr; rw [if_neg (by omega), if_pos (by omega)]; rfl
      have e1 : ((n : Int) == 0) = false := by simp; omega
      clear hlen h0
      go_enter Tryd.func60, Tryd.ntmps60
      go_wp2
      go_ret
      exact ⟨by rw [E.out]; rfl, Below.refl _ _⟩
    · have E := Lib.hid (show schemaErr l = firstErr (schemaAt l) n by unfold schemaErr; rw [if_neg (by omega), if_neg (by omega), hlen])
      have e1 : ((n : Int) == 0) = false := by simp; omega
      have e2 : n ≤ 6 := by omega
      clear hlen h0 h6
      go_enter Tryd.func60, Tryd.ntmps60
      go_wp2_with fail
      clear e1
      go_loopw [17] (fun i wr => ∃ k : Nat, k ≤ n ∧ i = .int .i64 k ∧ Below w.heap.size w wr ∧ firstErr (schemaAt l) k = 0) (fun i _ => n - (intOf i).toNat)
      case atStart => exact ⟨0, by omega, rfl, Below.refl _ _, rfl⟩
      case round =>
        obtain ⟨k, hk, rfl, hb, hno⟩ := hrel
        have HN := Lib.hid hno
        have HB := Lib.hid hb
        have hsz := hb.size
        clear hno
        by_cases hlk : k < n
        · obtain ⟨g, o, x, rfl, hg, hx, c1, c2⟩ := (HL.out.keep hb).at_ hlk
          have HX := Lib.hid hx
          have HT := Lib.hid ((HL.out.keep hb).take (Nat.le_of_lt hlk))
          have hxs := HS.out x (List.mem_of_getElem? hx)
          have hsA : schemaAt l k = if nameOk x.name.data.toList = false then 2 else if ¬ (1 ≤ x.type ∧ x.type ≤ 3) then 1 else if 0 ≤ findCol (l.take k) x.name then 7 else 0 := by
            unfold schemaAt; rw [hx]
          have HA := Lib.hid hsA
          clear hb hx hsA
          by_cases hn : nameOk x.name.data.toList = true
          · by_cases ht : 1 ≤ x.type ∧ x.type ≤ 3
            · obtain ⟨ht1, ht2⟩ := ht
              have et : decide (1 ≤ x.type ∧ x.type ≤ 3) = true := by simp; omega
              generalize hf : findCol (l.take k) x.name = z at HA
              have HF := Lib.hid hf
              have HNm := Lib.hid hn
              clear hf hn
              go_wp2_with (first
                | (go_at_call 95; refine (rname_any _ _ hxs).mono ?_; rintro e w1 ⟨rfl, hb1⟩; rw [HNm.out]; have cx1 : w1.cell? ⟨wr.heap.size, 0, none⟩ = some (.string x.name) := (hb1.cell (p := ⟨wr.heap.size, 0, none⟩) (by simp)).trans (by simp); have cx2 : w1.cell? ⟨wr.heap.size, 1, none⟩ = some (.int .i64 x.type) := (hb1.cell (p := ⟨wr.heap.size, 1, none⟩) (by simp)).trans (by simp); have HB1 := Lib.hid hb1; clear hb1)
                | (go_at_call 61; refine (vtype_any _ _).mono ?_; rintro e w' ⟨rfl, rfl⟩; rw [et]))
              have HT1 := Lib.hid ((HT.out.keep ((Below.refl wr.heap.size wr).alloc (Nat.le_refl _) _)).keep HB1.out)
              have HB2 := Lib.hid (below_step (below_step HB.out ((Below.refl wr.heap.size wr).alloc (Nat.le_refl _) _)) HB1.out)
              have hkc : k ≤ c := by omega
              have hkc' : (k : Int) ≤ (c : Int) := by omega
              have hkc2 : ¬ c < k := by omega
              go_still_tail 5, (by kernel_rfl)
              change wpList _ _ _ _ _ w1.drew
              have HT2 := Lib.hid (show SeesCols w1.drew _ _ _ _ from HT1.out)
              have HB3 := Lib.hid (HB2.out.drew)
              generalize w1.drew = w2 at HT2 HB3 ⊢
              by_cases hz : 0 ≤ z
              · have ER := Lib.hid (show schemaErr l = 7 by
                  have h7 : schemaAt l k = 7 := by rw [HA.out, if_neg (by rw [HNm.out]; simp), if_neg (by simp; omega), if_pos hz]
                  rw [E.out, firstErr_hit HN.out (by rw [h7]; decide) n hlk, h7])
                go_wp2_with (first | (go_at_call 96; refine (rfind_any _ _ _ _ _ _ HT2.out).mono ?_; rintro e w3 ⟨rfl, hb3⟩; rw [HF.out]))
                go_ret
                exact ⟨by rw [ER.out]; rfl, below_step HB3.out hb3⟩
              · have h0 := Lib.hid (show schemaAt l k = 0 by rw [HA.out, if_neg (by rw [HNm.out]; simp), if_neg (by simp; omega), if_neg hz])
                go_wp2_with (first | (go_at_call 96; refine (rfind_any _ _ _ _ _ _ HT2.out).mono ?_; rintro e w3 ⟨rfl, hb3⟩; rw [HF.out]))
                go_roundw
                case rel => exact ⟨k + 1, by omega, by go_num, below_step HB3.out hb3, firstErr_next HN.out h0.out⟩
                case measure => simp [intOf]; omega
            · have et : decide (1 ≤ x.type ∧ x.type ≤ 3) = false := by simpa using ht
              have ER := Lib.hid (show schemaErr l = 1 by
                have h7 : schemaAt l k = 1 := by rw [HA.out, if_neg (by rw [hn]; simp), if_pos ht]
                rw [E.out, firstErr_hit HN.out (by rw [h7]; decide) n hlk, h7])
              have HNm := Lib.hid hn
              clear hn ht HA
              go_wp2_with (first
                | (go_at_call 95; refine (rname_any _ _ hxs).mono ?_; rintro e w1 ⟨rfl, hb1⟩; rw [HNm.out]; have cx2 : w1.cell? ⟨wr.heap.size, 1, none⟩ = some (.int .i64 x.type) := (hb1.cell (p := ⟨wr.heap.size, 1, none⟩) (by simp)).trans (by simp); have HB1 := Lib.hid hb1; clear hb1)
                | (go_at_call 61; refine (vtype_any _ _).mono ?_; rintro e w' ⟨rfl, rfl⟩; rw [et]))
              go_ret
              exact ⟨by rw [ER.out]; rfl, below_step (below_step HB.out ((Below.refl wr.heap.size wr).alloc (Nat.le_refl _) _)) HB1.out⟩
          · have hn' : nameOk x.name.data.toList = false := by simpa using hn
            have ER := Lib.hid (show schemaErr l = 2 by
              have h7 : schemaAt l k = 2 := by rw [HA.out, if_pos hn']
              rw [E.out, firstErr_hit HN.out (by rw [h7]; decide) n hlk, h7])
            have HNm := Lib.hid hn'
            clear hn hn' HA
            go_wp2_with (first
              | (go_at_call 95; refine (rname_any _ _ hxs).mono ?_; rintro e w1 ⟨rfl, hb1⟩; rw [HNm.out]; have HB1 := Lib.hid hb1; clear hb1))
            go_ret
            exact ⟨by rw [ER.out]; rfl, below_step (below_step HB.out ((Below.refl wr.heap.size wr).alloc (Nat.le_refl _) _)) HB1.out⟩
        · obtain rfl : n = k := by omega
          have ER := Lib.hid (show schemaErr l = 0 by rw [E.out]; exact HN.out)
          go_wp2_with fail
          go_ret
          exact ⟨by rw [ER.out]; rfl, HB.out⟩
end Go.Proofs.YteoheaahlokdiaaDoor
