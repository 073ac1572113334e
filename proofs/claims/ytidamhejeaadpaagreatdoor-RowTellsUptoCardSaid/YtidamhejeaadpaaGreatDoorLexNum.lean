/- Package lex: a number at the beginning of a text, walked. -/
import Derived.Test.YtidamhejeaadpaaGreatDoorLexFns
import Derived.Shelf.Strconv.AtoiAll
namespace Go.Proofs.YtidamhejeaadpaaGreatDoor
open Go.ChangeShapes Go.WideShapes Go.ChangeAt Go.RowKit

/-- The library's errors of numbers lie as they were laid. -/
structure NumT (w : World) : Prop where
  rng : ∃ te pe, w.cell? ⟨5, 0, none⟩ = some (.iface te pe) ∧ 5 < w.heap.size
  syn : ∃ te pe, w.cell? ⟨4, 0, none⟩ = some (.iface te pe) ∧ 4 < w.heap.size
theorem NumT.keep {w w' : World} (h : NumT w) (hb : Below w.heap.size w w') : NumT w' := by
  obtain ⟨⟨a, b, h1, h2⟩, ⟨c, d, h3, h4⟩⟩ := h
  exact ⟨⟨a, b, (hb.cell (p := ⟨5, 0, none⟩) h2).trans h1, Nat.lt_of_lt_of_le h2 hb.size⟩, ⟨c, d, (hb.cell (p := ⟨4, 0, none⟩) h4).trans h3, Nat.lt_of_lt_of_le h4 hb.size⟩⟩
theorem ext_list (s : ByteArray) (a b : Nat) : (s.extract a b).data.toList = (s.data.toList.drop a).take (b - a) := by
  simp only [ByteArray.data_extract]
  simp only [Array.toList_extract, List.extract_eq_take_drop]
/-- Atoi of digits. -/
def atoiSays (l : List UInt8) (w : World) : Ending → World → Prop := fun e w' =>
  if numOk l = true then e = .returned (.tuple #[.int .i64 (decN l), .nilIface]) ∧ Below w.heap.size w w'
  else ∃ N t, e = .returned (.tuple #[.int .i64 (Lib.atoiSat l), .iface t (.pointer (some ⟨N, 0, none⟩))]) ∧ Below w.heap.size w w'
theorem atoi_any (s : ByteArray) (hs : s.size ≤ 281474976710656) (hn : s.data.toList ≠ []) (hd : s.data.toList.all isD = true) (w : World) (hT : NumT w) :
    Calls Tryz.prog 68 #[.string s] w (atoiSays s.data.toList w) := by
  have ha := atoi_digits hn hd
  unfold atoiSays
  by_cases hok : numOk s.data.toList = true
  · rw [if_pos hok] at ha
    refine (Tryz.strconv_Atoi_ok s (by omega) _ ha w).mono ?_
    rintro e w' ⟨rfl, h⟩
    rw [if_pos hok]
    refine ⟨rfl, ?_⟩
    rcases h with rfl | ⟨t, rfl⟩
    · exact Below.refl _ _
    · exact Lib.bytesWorld_below _ _ _
  · rw [if_neg hok] at ha
    obtain ⟨⟨te, pe, h1, h2⟩, _⟩ := hT
    refine (Tryz.strconv_Atoi_range s hs ha _ w h1 (Or.inr ⟨te, pe, rfl⟩)).mono ?_
    rintro e w' ⟨N, rfl, _, _, hb⟩
    rw [if_neg hok]
    exact ⟨N, _, rfl, hb⟩

def numBad (l : List UInt8) : Prop := (1 < (l.takeWhile isD).length ∧ l.head? = some 48) ∨ (l.dropWhile isD).head?.any isL = true
instance (l : List UInt8) : Decidable (numBad l) := by unfold numBad; infer_instance
def numN (l : List UInt8) : Nat := if numBad l then 0 else if numOk (l.takeWhile isD) = true then (l.takeWhile isD).length else 0
def numE (l : List UInt8) : Int := if numBad l then 2 else if numOk (l.takeWhile isD) = true then 0 else 1
theorem dw_drop (p : UInt8 → Bool) (l : List UInt8) : l.dropWhile p = l.drop (l.takeWhile p).length := by
  have h := List.takeWhile_append_dropWhile (p := p) (l := l)
  conv => rhs; rw [← h]
  generalize l.dropWhile p = b at h ⊢
  have : ((l.takeWhile p ++ b).takeWhile p).length = (l.takeWhile p).length := by rw [h]
  rw [this, List.drop_left]
end Go.Proofs.YtidamhejeaadpaaGreatDoor
