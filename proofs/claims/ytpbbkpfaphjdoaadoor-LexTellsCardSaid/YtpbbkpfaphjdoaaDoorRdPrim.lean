/- Values among the words, plain: what is known of one that is a value, and of one that is none; the expressions that are made of a value, of a name. tree.Reader's primary, walked: brackets, len, if, a value, a name. -/
import Derived.Test.YtpbbkpfaphjdoaaDoorRdGo
import Derived.Test.YtpbbkpfaphjdoaaDoorNumLaw
import Derived.Test.YtpbbkpfaphjdoaaDoorRdCallGo
namespace Go.Proofs.YtpbbkpfaphjdoaaDoor
open Go.ChangeShapes Go.WideShapes Go.ChangeAt Go.RowKit

theorem vcheck_s40 {v : Val} (h : vcheck v = 0) : v.s.size ≤ 40 := by
  have nil : v.s.data.toList = [] → v.s.size ≤ 40 := fun e => by
    have e2 : v.s.size = v.s.data.toList.length := rfl
    rw [e2, e]; exact Nat.zero_le _
  unfold vcheck at h
  split at h
  · split at h
    · rename_i hx; exact nil hx
    · cases h
  · split at h
    · split at h
      · split at h
        · rename_i hx; exact nil hx
        · cases h
      · cases h
    · split at h
      · split at h
        · cases h
        · rename_i hx; omega
      · cases h
theorem readP_wf {l : List UInt8} (h : (readP l).2 = 0) : (readP l).1.wf := by
  obtain ⟨h1, -, h3, h4⟩ := show_read (l := l) (v := (readP l).1) (Prod.ext rfl h)
  have := vcheck_s40 h1
  unfold fitsN at h3 h4
  refine ⟨?_, ?_, ?_⟩
  · unfold fits lo63 hi63; omega
  · unfold fits lo63 hi63; omega
  · unfold maxLen; omega
theorem read_words (l : List UInt8) (h : l = tTrue ∨ l = tFalse) : (readP l).2 = 0 := by
  rcases h with rfl | rfl <;> rfl
section
variable {T : List Tok} {E : Nat}
theorem val_some (hW : Words T E) {i : Nat} {v : Val} (h : valT T i = some v) : i < T.length ∧ v = (readP (textT T i)).1 ∧ (readP (textT T i)).2 = 0 ∧ (textT T i).length ≤ 400 ∧
    (kindT T i = 2 ∨ (kindT T i ≠ 2 ∧ kindT T i = 3) ∨ (kindT T i ≠ 2 ∧ kindT T i ≠ 3 ∧ isT T i tTrue = true) ∨ (kindT T i ≠ 2 ∧ kindT T i ≠ 3 ∧ isT T i tTrue = false ∧ isT T i tFalse = true)) := by
  unfold valT at h
  cases ht : T[i]? with
  | none => rw [ht] at h; cases h
  | some t =>
    rw [ht] at h
    have hm := List.mem_of_getElem? ht
    have e1 : textT T i = t.text := by unfold textT; rw [ht]
    have e2 : kindT T i = t.kind := by unfold kindT; rw [ht]
    rw [isT_eq, isT_eq, e1, e2]
    simp only at h
    split at h
    · rename_i hx
      injection h with h
      refine ⟨(List.getElem?_eq_some_iff.1 ht).1, h.symm, ?_, hW.text t hm, ?_⟩
      · rcases hx with hx | hx | ⟨_, hx⟩
        · exact hW.val t hm (Or.inl hx)
        · exact hW.val t hm (Or.inr hx)
        · exact read_words _ hx
      · rcases hx with hx | hx | ⟨h1, hx⟩
        · exact Or.inl hx
        · exact Or.inr (Or.inl ⟨by omega, hx⟩)
        · have k2 : t.kind ≠ 2 := by omega
          have k3 : t.kind ≠ 3 := by omega
          rcases hx with hx | hx
          · exact Or.inr (Or.inr (Or.inl ⟨k2, k3, by rw [h1, hx]; rfl⟩))
          · exact Or.inr (Or.inr (Or.inr ⟨k2, k3, by rw [h1, hx]; rfl, by rw [h1, hx]; rfl⟩))
    · cases h
theorem val_none (hW : Words T E) {i : Nat} (h : valT T i = none) : kindT T i ≠ 2 ∧ kindT T i ≠ 3 ∧ isT T i tTrue = false ∧ isT T i tFalse = false := by
  unfold valT at h
  cases ht : T[i]? with
  | none =>
    have e2 : kindT T i = 0 := by unfold kindT; rw [ht]
    rw [isT_eq, isT_eq, e2]
    exact ⟨by decide, by decide, rfl, rfl⟩
  | some t =>
    rw [ht] at h
    have hm := List.mem_of_getElem? ht
    have e1 : textT T i = t.text := by unfold textT; rw [ht]
    have e2 : kindT T i = t.kind := by unfold kindT; rw [ht]
    simp only at h
    split at h
    · cases h
    · rename_i hx
      have no : ∀ u, u = tTrue ∨ u = tFalse → isT T i u = false := by
        intro u hu
        cases hh : isT T i u with
        | false => rfl
        | true =>
          obtain ⟨t', ht', hk, htx⟩ := isT_some hh
          rw [ht] at ht'
          injection ht' with ht'
          subst ht'
          rcases hk with hk | hk
          · have := hW.sign t hm hk
            rw [htx] at this
            rcases hu with rfl | rfl
            · exact absurd this (by decide)
            · exact absurd this (by decide)
          · exact absurd (Or.inr (Or.inr ⟨hk, by rw [htx]; exact hu⟩)) hx
      rw [e2]
      exact ⟨fun e => hx (Or.inl e), fun e => hx (Or.inr (Or.inl e)), no _ (Or.inl rfl), no _ (Or.inr rfl)⟩
end
theorem built_val (v : Val) (pos : Int) : Tryd.prog.built 57 [(0, Value.string ⟨#[118, 97, 108]⟩), (2, .agg #[.int .i64 v.type, .int .i64 v.n, .string v.s]), (4, .int .i64 pos)] = some #[.string ⟨#[118, 97, 108]⟩, .string ⟨#[]⟩, .int .i64 v.type, .int .i64 v.n, .string v.s, .slice none 0 0, .int .i64 pos] := by kernel_rfl
theorem run_val (v : Val) (pos : Int) (w : World) : (Instr.build 57 #[(0, .string ⟨#[118, 97, 108]⟩), (2, .agg #[.int .i64 v.type, .int .i64 v.n, .string v.s]), (4, .int .i64 pos)]).run Tryd.prog w = .ok (.agg #[.string ⟨#[118, 97, 108]⟩, .string ⟨#[]⟩, .int .i64 v.type, .int .i64 v.n, .string v.s, .slice none 0 0, .int .i64 pos]) w :=
  run_build w _ _ _ (built_val v pos)
theorem built_col (s : ByteArray) (pos : Int) : Tryd.prog.built 57 [(0, Value.string ⟨#[99, 111, 108]⟩), (1, .string s), (4, .int .i64 pos)] = some #[.string ⟨#[99, 111, 108]⟩, .string s, .int .i64 0, .int .i64 0, .string ⟨#[]⟩, .slice none 0 0, .int .i64 pos] := by kernel_rfl
theorem run_col (s : ByteArray) (pos : Int) (w : World) : (Instr.build 57 #[(0, .string ⟨#[99, 111, 108]⟩), (1, .string s), (4, .int .i64 pos)]).run Tryd.prog w = .ok (.agg #[.string ⟨#[99, 111, 108]⟩, .string s, .int .i64 0, .int .i64 0, .string ⟨#[]⟩, .slice none 0 0, .int .i64 pos]) w :=
  run_build w _ _ _ (built_col s pos)
/-- An expression without parts. -/
theorem seesS_leaf {S : Nat → Prop} {w : World} {op name : ByteArray} {v : Val} {pos : Int} (ho : op.size ≤ 400) (hn : name.size ≤ 400) (hv : v.wf) (hp : fits pos) : SeesS S w (.mk op name v none 0 [] pos) :=
  .mk (Sees.nil w 7) (fun g o e _ => by cases e) (show op.size ≤ maxLen by unfold maxLen; omega) (show name.size ≤ maxLen by unfold maxLen; omega) hv hp (fun a ha => by cases ha)
end Go.Proofs.YtpbbkpfaphjdoaaDoor
namespace Go.Proofs.YtpbbkpfaphjdoaaDoor
open Go.ChangeShapes Go.WideShapes Go.ChangeAt Go.RowKit
end Go.Proofs.YtpbbkpfaphjdoaaDoor
