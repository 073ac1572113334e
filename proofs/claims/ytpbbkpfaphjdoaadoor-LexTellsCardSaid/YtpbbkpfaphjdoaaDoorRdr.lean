/- The reader of words, as it lies; its small steps, walked: Peek, Take, Fail, Is, Has, Need, Name, one, Done, NewReader. -/
import Derived.Test.YtpbbkpfaphjdoaaDoorRdLaw
import Derived.Test.YtpbbkpfaphjdoaaDoorLexAll
import Derived.Test.YtpbbkpfaphjdoaaDoorOnly
import Derived.Test.YtpbbkpfaphjdoaaDoorExOwn
import Derived.Test.YtpbbkpfaphjdoaaDoorTreeName
import Derived.Deep.QuietTactic
import Derived.BigQuiet
import Derived.StillTailTactics
import Derived.BigRegion
namespace Go.Proofs.YtpbbkpfaphjdoaaDoor
open Go.ChangeShapes Go.WideShapes Go.ChangeAt Go.RowKit

/-- What is known of words that were read of a text. -/
structure Words (T : List Tok) (E : Nat) : Prop where
  len : T.length ≤ 400
  E_le : E ≤ 400
  at_ : ∀ t ∈ T, t.at_ ≤ E
  text : ∀ t ∈ T, t.text.length ≤ 400
  val : ∀ t ∈ T, t.kind = 2 ∨ t.kind = 3 → (readP t.text).2 = 0
  sign : ∀ t ∈ T, t.kind = 4 → t.text ∈ signL
section
variable {T : List Tok} {E : Nat} {w w' : World} {rb : Nat} {A : Option Addr} {c i : Nat}
theorem Only.setNew {S : Nat → Prop} {a b : World} (h : Only S a b) {p : Addr} (hp : a.heap.size ≤ p.block) (u : Value) : Only S a (b.setCell p u) :=
  ⟨h.os, h.tape, h.output, by simpa [World.setCell] using h.size, fun k hk hs => (Below.heap_setCell _ _ _ _ (fun e => by omega)).trans (h.block k hk hs)⟩
end
def kindT (T : List Tok) (i : Nat) : Int := match T[i]? with
  | none => 0
  | some t => t.kind
/-- The i-th word, as it is handed on. -/
def tokV (T : List Tok) (E i : Nat) : Value := .agg #[.int .i64 (kindT T i), .string ⟨(textT T i).toArray⟩, .int .i64 (atT T E i)]
theorem isT_eq (T : List Tok) (i : Nat) (s : List UInt8) : isT T i s = ((kindT T i == 4 || kindT T i == 1) && (textT T i == s)) := by
  unfold isT kindT textT
  cases T[i]? with
  | none => rfl
  | some t => rfl
def Own3T (w : World) (b : Nat) (k : Int) (s : ByteArray) (p : Int) : Prop := w.heap[b]? = some (.cells #[.int .i64 k, .string s, .int .i64 p] 51 (0, 0))
theorem own3t_new (w : World) (k : Int) (s : ByteArray) (p : Int) : Own3T (w.alloc (.cells #[.int .i64 k, .string s, .int .i64 p] 51)) w.heap.size k s p := heap_alloc_new w _
theorem Own3T.cells {w : World} {b : Nat} {k : Int} {s : ByteArray} {p : Int} (h : Own3T w b k s p) : w.cell? ⟨b, 0, none⟩ = some (.int .i64 k) ∧ w.cell? ⟨b, 1, none⟩ = some (.string s) ∧ w.cell? ⟨b, 2, none⟩ = some (.int .i64 p) := box3 h
theorem Own3T.lt {w : World} {b : Nat} {k : Int} {s : ByteArray} {p : Int} (h : Own3T w b k s p) : b < w.heap.size := (Array.getElem?_eq_some_iff.1 h).1
theorem Own3T.frees {w : World} {b : Nat} {k : Int} {s : ByteArray} {p : Int} (h : Own3T w b k s p) : w.frozen? ⟨b, 0, none⟩ = false ∧ w.frozen? ⟨b, 1, none⟩ = false ∧ w.frozen? ⟨b, 2, none⟩ = false :=
  ⟨frozen_of_row _ _ _ _ _ h, frozen_of_row _ _ _ _ _ h, frozen_of_row _ _ _ _ _ h⟩
theorem Own3T.keep {w w' : World} {b : Nat} {k : Int} {s : ByteArray} {p : Int} (h : Own3T w b k s p) (hb : Below w.heap.size w w') : Own3T w' b k s p := (hb.block b h.lt).trans h
theorem own3t_set {w : World} {b : Nat} {k : Int} {s : ByteArray} {p : Int} (h : Own3T w b k s p) (k' : Int) (s' : ByteArray) (p' : Int) :
    Own3T (((w.setCell ⟨b, 0, none⟩ (.int .i64 k')).setCell ⟨b, 1, none⟩ (.string s')).setCell ⟨b, 2, none⟩ (.int .i64 p')) b k' s' p' := by
  unfold Own3T
  rw [heap_setCell_same _ _ _ _ _ _ (heap_setCell_same _ _ _ _ _ _ (heap_setCell_same _ _ _ _ _ _ h))]
  rfl
def PeekSays (T : List Tok) (E i : Nat) (w : World) (e : Ending) (w' : World) : Prop := e = .returned (tokV T E i) ∧ Below w.heap.size w w'
theorem field_at (k : Int) (s : ByteArray) (p : Int) (w : World) : (Instr.field 51 (.agg #[.int .i64 k, .string s, .int .i64 p]) 2).run Tryd.prog w = .ok (.int .i64 p) w := by kernel_rfl
theorem field_text (k : Int) (s : ByteArray) (p : Int) (w : World) : (Instr.field 51 (.agg #[.int .i64 k, .string s, .int .i64 p]) 1).run Tryd.prog w = .ok (.string s) w := by kernel_rfl
theorem nameT_eq (T : List Tok) (i : Nat) : nameT T i = if kindT T i = 1 ∧ treeName (mkB (textT T i)) = true then some (textT T i) else none := by
  unfold nameT kindT textT
  cases T[i]? with
  | none => rfl
  | some t => rfl
theorem kind_lt {T : List Tok} {i : Nat} {k : Int} (h : kindT T i = k) (hk : k ≠ 0) : i < T.length := by
  unfold kindT at h
  cases ht : T[i]? with
  | none => rw [ht] at h; exact absurd h.symm hk
  | some t => exact (List.getElem?_eq_some_iff.1 ht).1
theorem text_len {T : List Tok} {E : Nat} (hW : Words T E) (i : Nat) : (textT T i).length ≤ 400 := by
  unfold textT
  cases ht : T[i]? with
  | none => exact Nat.zero_le _
  | some t => exact hW.text t (List.mem_of_getElem? ht)
theorem txtAt {w : World} {A : Option Addr} {n c : Nat} {zs : List ByteArray} (h : Sees w A n c 1 (strCells zs)) {k : Nat} (hk : k < n) :
    ∃ g o z, A = some ⟨g, o, none⟩ ∧ zs[k]? = some z ∧ w.cell? ⟨g, o + k, none⟩ = some (.string z) := by
  obtain ⟨g, o, u, e, hu, hc⟩ := h.at_ hk
  obtain ⟨z, hz, rfl⟩ := strCells_at hu
  exact ⟨g, o, z, e, hz, hc⟩
theorem txtLen {w : World} {A : Option Addr} {n c : Nat} {zs : List ByteArray} (h : Sees w A n c 1 (strCells zs)) : zs.length = n := by have := h.1; simpa [strCells] using this
theorem lvl_any (T : List Tok) (n i : Nat) : ((lvlB n).any fun s => isT T i s.data.toList) = (lvlL n).any (fun s => isT T i s) := by
  unfold lvlB
  rw [List.any_map]
  rfl
end Go.Proofs.YtpbbkpfaphjdoaaDoor
