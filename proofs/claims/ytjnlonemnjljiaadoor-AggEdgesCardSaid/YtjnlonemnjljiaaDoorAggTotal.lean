/- agg.of, agg.Total.plus, agg.Total.value, walked: numbers of 128 bits. -/
import Derived.Test.YtjnlonemnjljiaaDoorErr
import Derived.Test.YtjnlonemnjljiaaDoorWords
import Derived.IntWalk
import Derived.Laws.Externs
import Derived.StillTailTactics
import Derived.Deep.QuietTactic
import Derived.BigQuiet
import Derived.Deep.RegionHeld3
namespace Go.Proofs.YtjnlonemnjljiaaDoor
open Go.ChangeShapes Go.WideShapes Go.ChangeAt Go.RowKit

/-- A total as it lies: the upper and the lower 64 bits. -/
def hiOf (t : Int) : Int := t / 18446744073709551616
def loOf (t : Int) : Int := t % 18446744073709551616
def totV (t : Int) : Value := .agg #[.int .i64 (hiOf t), .int .u64 (loOf t)]

theorem tot_parts (t : Int) : t = hiOf t * 18446744073709551616 + loOf t ∧ 0 ≤ loOf t ∧ loOf t < 18446744073709551616 := by
  unfold hiOf loOf; omega
theorem tot_sum {a b : Int} : hiOf (a + b) = hiOf a + hiOf b + (loOf a + loOf b) / 18446744073709551616 ∧ loOf (a + b) = (loOf a + loOf b) % 18446744073709551616 := by
  unfold hiOf loOf; omega
theorem tot_inj {a b : Int} (h1 : hiOf a = hiOf b) (h2 : loOf a = loOf b) : a = b := by
  have := tot_parts a
  have := tot_parts b
  rw [h1, h2] at *
  omega
/-- A total that is far from going round. -/
def small (t : Int) : Prop := -1267650600228229401496703205376 ≤ t ∧ t ≤ 1267650600228229401496703205376
theorem small_hi {t : Int} (h : small t) : -68719476737 ≤ hiOf t ∧ hiOf t ≤ 68719476737 := by
  unfold small at h; unfold hiOf; omega
theorem add64_0 (x y : Int) (hx : 0 ≤ x) (hy : 0 ≤ y) (w : World) : (callFunc 86 #[.int .u64 x, .int .u64 y, .int .u64 0]).run Tryd.prog w =
    .ok (.value (.tuple #[.int .u64 ((x + y) % 18446744073709551616), .int .u64 ((x + y) / 18446744073709551616)])) w := by
  rw [run_callFunc_extern Tryd.func86 (by kernel_rfl) (by kernel_rfl) (by kernel_rfl) (e := add64Entry) (by kernel_rfl), run_add64 x y 0 hx hy (by omega) (by omega)]
  simp [Result.andThen]

set_option maxHeartbeats 1000000 in
theorem aggOf_any (n : Int) (w : World) (h1 : -9223372036854775808 ≤ n) (h2 : n ≤ 9223372036854775807) :
    Calls Tryd.prog 35 #[.int .i64 n] w fun e w' => e = .returned (totV n) ∧ Below w.heap.size w w' := by
  have e1 := Lib.hid (show n / 9223372036854775808 = hiOf n by unfold hiOf; omega)
  have e2 := Lib.hid (show IntKind.u64.wrap n = loOf n by unfold loOf; simp [IntKind.wrap, IntKind.bits, IntKind.signed])
  clear h1 h2
  go_enter Tryd.func35, Tryd.ntmps35
  go_wp2_with fail
  rw [e1.out, e2.out]
  exact bodyPost_ret (v := totV n) (by simp [results, Tryd.results35, go_sem, totV]) rfl ⟨rfl, (Below.refl _ _).alloc (Nat.le_refl _) _⟩

set_option maxHeartbeats 1000000 in
theorem plus_any (a b : Int) (w : World) (ha : small a) (hb : small b) :
    Calls Tryd.prog 65 #[totV a, totV b] w fun e w' => e = .returned (totV (a + b)) ∧ Below w.heap.size w w' := by
  have E := Lib.hid (tot_sum (a := a) (b := b))
  have h1 := small_hi ha
  have h2 := small_hi hb
  have h3 := (tot_parts a).2
  have h4 := (tot_parts b).2
  unfold totV
  generalize hiOf a = x at *
  generalize hiOf b = y at *
  generalize loOf a = l at *
  generalize loOf b = r at *
  have EE := Lib.hid (show hiOf (a + b) = x + y + (l + r) / 18446744073709551616 ∧ loOf (a + b) = (l + r) % 18446744073709551616 from E.out)
  generalize hiOf (a + b) = x2 at EE ⊢
  generalize loOf (a + b) = l2 at EE ⊢
  clear ha hb E
  have hA := Lib.hid (add64_0 l r h3.1 h4.1)
  have hc : 0 ≤ (l + r) / 18446744073709551616 ∧ (l + r) / 18446744073709551616 ≤ 1 := by omega
  generalize hcc : (l + r) / 18446744073709551616 = c at *
  generalize hll : (l + r) % 18446744073709551616 = d at *
  clear hcc hll
  go_enter Tryd.func65, Tryd.ntmps65
  go_wp2_with (first | simp only [hA.out])
  rw [EE.out.1, EE.out.2]
  exact bodyPost_ret (v := .agg #[.int .i64 (x + y + c), .int .u64 d]) (by simp [results, Tryd.results65, go_sem]) rfl ⟨rfl, ((((Below.refl _ _).alloc (Nat.le_refl _) _).alloc (by simp) _).alloc (by simp; omega) _)⟩

def fits64 (t : Int) : Prop := -9223372036854775808 ≤ t ∧ t ≤ 9223372036854775807
instance (t : Int) : Decidable (fits64 t) := inferInstanceAs (Decidable (_ ∧ _))
theorem lo_wrap (t : Int) : (fits64 t → wrap64 (loOf t) = t) ∧ loOf (wrap64 (loOf t)) = loOf t ∧ fits64 (wrap64 (loOf t)) := by
  unfold fits64 wrap64 loOf
  refine ⟨fun h => ?_, ?_, ?_, ?_⟩ <;> omega
def ValueSays (t : Int) (w : World) (e : Ending) (w' : World) : Prop :=
  e = .returned (if fits64 t then .tuple #[.int .i64 t, .nilIface] else .tuple #[.int .i64 0, .iface 78 (.int .i64 9)]) ∧ Below w.heap.size w w'
set_option maxHeartbeats 1000000 in
set_option maxRecDepth 100000 in
theorem value_any (t : Int) (w : World) :
    Calls Tryd.prog 63 #[totV t] w (ValueSays t w) := by
  obtain ⟨p1, p2, p3⟩ := lo_wrap t
  obtain ⟨w0, hw0⟩ : ∃ w0, w.alloc (.cells #[.int .i64 (hiOf t), .int .u64 (loOf t)] 85) = w0 := ⟨_, rfl⟩
  have c0 : w0.cell? ⟨w.heap.size, 0, none⟩ = some (.int .i64 (hiOf t)) := by rw [← hw0]; simp
  have c1 : w0.cell? ⟨w.heap.size, 1, none⟩ = some (.int .u64 (loOf t)) := by rw [← hw0]; simp
  have hlt : w.heap.size < w0.heap.size := by rw [← hw0]; simp
  have HB := Lib.hid (show Below w.heap.size w w0 by rw [← hw0]; exact (Below.refl _ _).alloc (Nat.le_refl _) _)
  have HW0 := Lib.hid hw0
  clear hw0
  have T := Lib.hid (fun w' => aggOf_any (wrap64 (loOf t)) w' p3.1 p3.2)
  unfold totV at T ⊢
  rw [p2] at T
  by_cases hf : fits64 t
  · have E := Lib.hid (p1 hf)
    have HF := Lib.hid hf
    rw [E.out] at T
    generalize hiOf t = x at *
    generalize loOf t = l at *
    have k0 := c0; have k1 := c1
    clear p1 p2 p3 hf
    go_enter Tryd.func63, Tryd.ntmps63
    go_wp2_with (first | rw [HW0.out] | rw [E.out])
    go_region_held3 (fun w' => w'.cell? ⟨w.heap.size, 0, none⟩ = some (.int .i64 x) ∧ w'.cell? ⟨w.heap.size, 1, none⟩ = some (.int .u64 l)) (first | go_keep | exact ⟨q0, q1⟩)
      (first | (go_at_call 35; refine (T.out _).mono ?_; rintro e w3 ⟨rfl, hb3⟩; have q0 := (hb3.cell (p := ⟨w.heap.size, 0, none⟩) hlt).trans k0; have q1 := (hb3.cell (p := ⟨w.heap.size, 1, none⟩) hlt).trans k1; have HB3 := Lib.hid (below_step HB.out.drew hb3); clear hb3))
    go_wp2_with fail
    go_ret2
    exact ⟨by rw [if_pos HF.out]; rfl, HB3.out⟩
  · have HF := Lib.hid hf
    have hne : hiOf (wrap64 (loOf t)) ≠ hiOf t := fun e => hf (by have := tot_inj e p2; rw [← this]; exact p3)
    have e1 : (hiOf (wrap64 (loOf t)) == hiOf t) = false := by simpa using hne
    generalize hiOf (wrap64 (loOf t)) = x2 at *
    have HM0 := Lib.hid (show wrap64 (loOf t) = wrap64 (loOf t) from rfl)
    obtain ⟨m, hm⟩ : ∃ m, wrap64 (loOf t) = m := ⟨_, rfl⟩
    rw [hm] at T p3
    clear HM0
    generalize hiOf t = x at *
    generalize loOf t = l at *
    have k0 := c0; have k1 := c1
    have HM := Lib.hid hm
    clear p1 p2 p3 hf hne hm
    go_enter Tryd.func63, Tryd.ntmps63
    go_wp2_with (first | rw [HW0.out] | rw [HM.out])
    go_region_held3 (fun w' => w'.cell? ⟨w.heap.size, 0, none⟩ = some (.int .i64 x) ∧ w'.cell? ⟨w.heap.size, 1, none⟩ = some (.int .u64 l)) (first | go_keep | exact ⟨q0, q1⟩)
      (first | (go_at_call 35; refine (T.out _).mono ?_; rintro e w3 ⟨rfl, hb3⟩; have q0 := (hb3.cell (p := ⟨w.heap.size, 0, none⟩) hlt).trans k0; have q1 := (hb3.cell (p := ⟨w.heap.size, 1, none⟩) hlt).trans k1; have HB3 := Lib.hid (below_step HB.out.drew hb3); clear hb3))
    go_wp2_with fail
    go_ret2
    exact ⟨by rw [if_neg HF.out]; rfl, HB3.out⟩
end Go.Proofs.YtjnlonemnjljiaaDoor
