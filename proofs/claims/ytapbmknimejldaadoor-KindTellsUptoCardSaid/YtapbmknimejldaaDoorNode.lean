/- tree.node, walked: what is wrong with one node. -/
import Derived.Test.YtapbmknimejldaaDoorBelow
import Derived.Test.YtapbmknimejldaaDoorTreeName
import Derived.Test.YtapbmknimejldaaDoorArity
namespace Go.Proofs.YtapbmknimejldaaDoor
open Go.ChangeShapes Go.WideShapes Go.ChangeAt Go.RowKit

def isCol (s : ByteArray) : Prop := s.data.toList = [99, 111, 108]
def isVal (s : ByteArray) : Prop := s.data.toList = [118, 97, 108]
instance (s : ByteArray) : Decidable (isCol s) := inferInstanceAs (Decidable (_ = _))
instance (s : ByteArray) : Decidable (isVal s) := inferInstanceAs (Decidable (_ = _))
/-- What is wrong with one node; 0: nothing. -/
def nodeErrOf (op name : ByteArray) (v : Val) (n : Nat) : Int :=
  if arityOf op < 0 ∨ isCol op ∧ treeName name = false then 2
  else if (n : Int) ≠ arityOf op ∨ ¬ isCol op ∧ name.data.toList ≠ [] ∨ ¬ isVal op ∧ v ≠ noVal then 3
  else if ¬ isVal op then 0
  else if vcheck v ≠ 0 then vcheck v
  else if v.type = 1 ∧ v.n < 0 then 1 else 0
def nodeErr (e : Ex) : Int := nodeErrOf e.op e.name e.val e.args.length
def NodeSays (k : Int) (w : World) (r : Ending) (w' : World) : Prop := r = .returned (errV k) ∧ Below w.heap.size w w'
theorem val_ways {v : Val} (h : v ≠ noVal) : (v.type == 0) = false ∨ (v.type = 0 ∧ (v.n == 0) = false) ∨ (v.type = 0 ∧ v.n = 0 ∧ v.s.toList.isEmpty = false) := by
  by_cases h1 : v.type = 0
  · by_cases h2 : v.n = 0
    · refine Or.inr (Or.inr ⟨h1, h2, str_some fun h3 => h ?_⟩)
      obtain ⟨t, n, s⟩ := v
      simp only at h1 h2 h3
      subst h1 h2
      rw [bytes_of h3]; rfl
    · exact Or.inr (Or.inl ⟨h1, by simpa using h2⟩)
  · exact Or.inl (by simpa using h1)

section
variable (op name : ByteArray) (A : Option Addr) (c : Nat) (pos : Int) (w : World) (t m : Int) (s : ByteArray)
set_option maxHeartbeats 1000000 in
set_option maxRecDepth 100000 in
theorem node_other_none (hT : LevelsT w) (hW : WordsT w) (n : Nat) (_hn : n ≤ maxLen) (hs : name.size ≤ maxLen) (_h1 : (op.toList == [99, 111, 108]) = false) (_h2 : (op.toList == [118, 97, 108]) = false) (h3 : decide (arityOf op < 0) = true) :
    Calls Tryd.prog 74 #[.agg #[.string op, .string name, .int .i64 t, .int .i64 m, .string s, .slice A n c, .int .i64 pos]] w (NodeSays 2 w) := by
  have hb0 : Below w.heap.size w (w.alloc (.cells #[.string op, .string name, .int .i64 t, .int .i64 m, .string s, .slice A n c, .int .i64 pos] 44)) := (Below.refl _ _).alloc (Nat.le_refl _) _
  have HT := Lib.hid (arity_any op _ (hT.keep hb0))
  have HN := Lib.hid (tname_any name _ (hW.keep hb0) hs)
  have HB := Lib.hid hb0
  generalize arityOf op = ar at *
  clear hb0 hT hW hs
  go_enter Tryd.func74, Tryd.ntmps74
  go_wp2_with fail
  refine (HT.out).mono ?_
  rintro e w1 ⟨rfl, rfl⟩
  go_wp2_with fail
  go_ret
  exact ⟨rfl, HB.out⟩
set_option maxHeartbeats 1000000 in
set_option maxRecDepth 100000 in
theorem node_other_len (hT : LevelsT w) (hW : WordsT w) (n : Nat) (_hn : n ≤ maxLen) (hs : name.size ≤ maxLen) (h1 : (op.toList == [99, 111, 108]) = false) (_h2 : (op.toList == [118, 97, 108]) = false) (h3 : decide (arityOf op < 0) = false) (h4 : ((n : Int) != arityOf op) = true) :
    Calls Tryd.prog 74 #[.agg #[.string op, .string name, .int .i64 t, .int .i64 m, .string s, .slice A n c, .int .i64 pos]] w (NodeSays 3 w) := by
  have hb0 : Below w.heap.size w (w.alloc (.cells #[.string op, .string name, .int .i64 t, .int .i64 m, .string s, .slice A n c, .int .i64 pos] 44)) := (Below.refl _ _).alloc (Nat.le_refl _) _
  have HT := Lib.hid (arity_any op _ (hT.keep hb0))
  have HN := Lib.hid (tname_any name _ (hW.keep hb0) hs)
  have HB := Lib.hid hb0
  generalize arityOf op = ar at *
  clear hb0 hT hW hs
  go_enter Tryd.func74, Tryd.ntmps74
  go_wp2_with fail
  refine (HT.out).mono ?_
  rintro e w1 ⟨rfl, rfl⟩
  go_wp2_with fail
  go_ret
  exact ⟨rfl, HB.out⟩
set_option maxHeartbeats 1000000 in
set_option maxRecDepth 100000 in
theorem node_other_name (hT : LevelsT w) (hW : WordsT w) (n : Nat) (_hn : n ≤ maxLen) (hs : name.size ≤ maxLen) (h1 : (op.toList == [99, 111, 108]) = false) (_h2 : (op.toList == [118, 97, 108]) = false) (h3 : decide (arityOf op < 0) = false) (h4 : ((n : Int) != arityOf op) = false) (h5 : name.toList.isEmpty = false) :
    Calls Tryd.prog 74 #[.agg #[.string op, .string name, .int .i64 t, .int .i64 m, .string s, .slice A n c, .int .i64 pos]] w (NodeSays 3 w) := by
  have hb0 : Below w.heap.size w (w.alloc (.cells #[.string op, .string name, .int .i64 t, .int .i64 m, .string s, .slice A n c, .int .i64 pos] 44)) := (Below.refl _ _).alloc (Nat.le_refl _) _
  have HT := Lib.hid (arity_any op _ (hT.keep hb0))
  have HN := Lib.hid (tname_any name _ (hW.keep hb0) hs)
  have HB := Lib.hid hb0
  generalize arityOf op = ar at *
  have h6 : (!name.toList.isEmpty) = true := by rw [h5]; rfl
  clear hb0 hT hW hs
  go_enter Tryd.func74, Tryd.ntmps74
  go_wp2_with fail
  refine (HT.out).mono ?_
  rintro e w1 ⟨rfl, rfl⟩
  go_wp2_with fail
  go_ret
  exact ⟨rfl, HB.out⟩
set_option maxHeartbeats 1000000 in
set_option maxRecDepth 100000 in
theorem node_other_t (hT : LevelsT w) (hW : WordsT w) (n : Nat) (_hn : n ≤ maxLen) (hs : name.size ≤ maxLen) (h1 : (op.toList == [99, 111, 108]) = false) (h2 : (op.toList == [118, 97, 108]) = false) (h3 : decide (arityOf op < 0) = false) (h4 : ((n : Int) != arityOf op) = false) (h5 : name.toList = []) (h6 : (t == 0) = false) :
    Calls Tryd.prog 74 #[.agg #[.string op, .string name, .int .i64 t, .int .i64 m, .string s, .slice A n c, .int .i64 pos]] w (NodeSays 3 w) := by
  have hb0 : Below w.heap.size w (w.alloc (.cells #[.string op, .string name, .int .i64 t, .int .i64 m, .string s, .slice A n c, .int .i64 pos] 44)) := (Below.refl _ _).alloc (Nat.le_refl _) _
  have HT := Lib.hid (arity_any op _ (hT.keep hb0))
  have HN := Lib.hid (tname_any name _ (hW.keep hb0) hs)
  have HB := Lib.hid hb0
  generalize arityOf op = ar at *
  clear hb0 hT hW hs
  go_enter Tryd.func74, Tryd.ntmps74
  go_wp2_with fail
  refine (HT.out).mono ?_
  rintro e w1 ⟨rfl, rfl⟩
  go_wp2_with fail
  go_ret
  exact ⟨rfl, HB.out⟩
set_option maxHeartbeats 1000000 in
set_option maxRecDepth 100000 in
theorem node_other_m (hT : LevelsT w) (hW : WordsT w) (n : Nat) (_hn : n ≤ maxLen) (hs : name.size ≤ maxLen) (h1 : (op.toList == [99, 111, 108]) = false) (h2 : (op.toList == [118, 97, 108]) = false) (h3 : decide (arityOf op < 0) = false) (h4 : ((n : Int) != arityOf op) = false) (h5 : name.toList = []) (ht : t = 0) (h6 : (m == 0) = false) :
    Calls Tryd.prog 74 #[.agg #[.string op, .string name, .int .i64 t, .int .i64 m, .string s, .slice A n c, .int .i64 pos]] w (NodeSays 3 w) := by
  have hb0 : Below w.heap.size w (w.alloc (.cells #[.string op, .string name, .int .i64 t, .int .i64 m, .string s, .slice A n c, .int .i64 pos] 44)) := (Below.refl _ _).alloc (Nat.le_refl _) _
  have HT := Lib.hid (arity_any op _ (hT.keep hb0))
  have HN := Lib.hid (tname_any name _ (hW.keep hb0) hs)
  have HB := Lib.hid hb0
  generalize arityOf op = ar at *
  subst ht
  clear hb0 hT hW hs
  go_enter Tryd.func74, Tryd.ntmps74
  go_wp2_with fail
  refine (HT.out).mono ?_
  rintro e w1 ⟨rfl, rfl⟩
  go_wp2_with fail
  go_ret
  exact ⟨rfl, HB.out⟩
set_option maxHeartbeats 1000000 in
set_option maxRecDepth 100000 in
theorem node_other_s (hT : LevelsT w) (hW : WordsT w) (n : Nat) (_hn : n ≤ maxLen) (hs : name.size ≤ maxLen) (h1 : (op.toList == [99, 111, 108]) = false) (h2 : (op.toList == [118, 97, 108]) = false) (h3 : decide (arityOf op < 0) = false) (h4 : ((n : Int) != arityOf op) = false) (h5 : name.toList = []) (ht : t = 0) (hm : m = 0) (h6 : s.toList.isEmpty = false) :
    Calls Tryd.prog 74 #[.agg #[.string op, .string name, .int .i64 t, .int .i64 m, .string s, .slice A n c, .int .i64 pos]] w (NodeSays 3 w) := by
  have hb0 : Below w.heap.size w (w.alloc (.cells #[.string op, .string name, .int .i64 t, .int .i64 m, .string s, .slice A n c, .int .i64 pos] 44)) := (Below.refl _ _).alloc (Nat.le_refl _) _
  have HT := Lib.hid (arity_any op _ (hT.keep hb0))
  have HN := Lib.hid (tname_any name _ (hW.keep hb0) hs)
  have HB := Lib.hid hb0
  generalize arityOf op = ar at *
  subst ht hm
  clear hb0 hT hW hs
  go_enter Tryd.func74, Tryd.ntmps74
  go_wp2_with fail
  refine (HT.out).mono ?_
  rintro e w1 ⟨rfl, rfl⟩
  go_wp2_with fail
  go_ret
  exact ⟨rfl, HB.out⟩
set_option maxHeartbeats 1000000 in
set_option maxRecDepth 100000 in
theorem node_other_ok (hT : LevelsT w) (hW : WordsT w) (n : Nat) (_hn : n ≤ maxLen) (hs : name.size ≤ maxLen) (h1 : (op.toList == [99, 111, 108]) = false) (h2 : (op.toList == [118, 97, 108]) = false) (h3 : decide (arityOf op < 0) = false) (h4 : ((n : Int) != arityOf op) = false) (h5 : name.toList = []) :
    Calls Tryd.prog 74 #[.agg #[.string op, .string name, .int .i64 0, .int .i64 0, .string ⟨#[]⟩, .slice A n c, .int .i64 pos]] w (NodeSays 0 w) := by
  have hb0 : Below w.heap.size w (w.alloc (.cells #[.string op, .string name, .int .i64 0, .int .i64 0, .string ⟨#[]⟩, .slice A n c, .int .i64 pos] 44)) := (Below.refl _ _).alloc (Nat.le_refl _) _
  have HT := Lib.hid (arity_any op _ (hT.keep hb0))
  have HN := Lib.hid (tname_any name _ (hW.keep hb0) hs)
  have HB := Lib.hid hb0
  generalize arityOf op = ar at *
  clear hb0 hT hW hs
  go_enter Tryd.func74, Tryd.ntmps74
  go_wp2_with fail
  refine (HT.out).mono ?_
  rintro e w1 ⟨rfl, rfl⟩
  go_wp2_with fail
  go_ret
  exact ⟨rfl, HB.out⟩
set_option maxHeartbeats 1000000 in
set_option maxRecDepth 100000 in
theorem node_col_name (hT : LevelsT w) (hW : WordsT w) (n : Nat) (_hn : n ≤ maxLen) (hs : name.size ≤ maxLen) (hk : treeName name = false) :
    Calls Tryd.prog 74 #[.agg #[.string ⟨#[99, 111, 108]⟩, .string name, .int .i64 t, .int .i64 m, .string s, .slice A n c, .int .i64 pos]] w (NodeSays 2 w) := by
  have hb0 : Below w.heap.size w (w.alloc (.cells #[.string ⟨#[99, 111, 108]⟩, .string name, .int .i64 t, .int .i64 m, .string s, .slice A n c, .int .i64 pos] 44)) := (Below.refl _ _).alloc (Nat.le_refl _) _
  have HT := Lib.hid (arity_any ⟨#[99, 111, 108]⟩ _ (hT.keep hb0))
  have HN := Lib.hid (tname_any name _ (hW.keep hb0) hs)
  have HB := Lib.hid hb0
  clear hb0 hT hW hs
  rw [show arityOf ⟨#[99, 111, 108]⟩ = 0 by decide] at HT
  go_enter Tryd.func74, Tryd.ntmps74
  go_wp2_with fail
  refine (HT.out).mono ?_
  rintro e w1 ⟨rfl, rfl⟩
  go_wp2_with fail
  refine (HN.out).mono ?_
  rintro e w1 ⟨rfl, hb1⟩
  rw [hk]
  have HB1 := Lib.hid (below_step HB.out hb1)
  have C := Lib.hid (fun (j : Nat) => hb1.cell (p := ⟨w.heap.size, j, none⟩) (by simp))
  have d0 := (C.out 0).trans (show _ = some (.string ⟨#[99, 111, 108]⟩) by simp)
  have d1 := (C.out 1).trans (show _ = some (.string name) by simp)
  have d2 := (C.out 2).trans (show _ = some (.int .i64 t) by simp)
  have d3 := (C.out 3).trans (show _ = some (.int .i64 m) by simp)
  have d4 := (C.out 4).trans (show _ = some (.string s) by simp)
  have d5 := (C.out 5).trans (show _ = some (.slice A n c) by simp)
  clear hb1
  go_wp2_with fail
  go_ret
  exact ⟨rfl, HB1.out⟩
set_option maxHeartbeats 1000000 in
set_option maxRecDepth 100000 in
theorem node_col_len (hT : LevelsT w) (hW : WordsT w) (n : Nat) (_hn : n ≤ maxLen) (hs : name.size ≤ maxLen) (hk : treeName name = true) (h4 : ((n : Int) != 0) = true) :
    Calls Tryd.prog 74 #[.agg #[.string ⟨#[99, 111, 108]⟩, .string name, .int .i64 t, .int .i64 m, .string s, .slice A n c, .int .i64 pos]] w (NodeSays 3 w) := by
  have hb0 : Below w.heap.size w (w.alloc (.cells #[.string ⟨#[99, 111, 108]⟩, .string name, .int .i64 t, .int .i64 m, .string s, .slice A n c, .int .i64 pos] 44)) := (Below.refl _ _).alloc (Nat.le_refl _) _
  have HT := Lib.hid (arity_any ⟨#[99, 111, 108]⟩ _ (hT.keep hb0))
  have HN := Lib.hid (tname_any name _ (hW.keep hb0) hs)
  have HB := Lib.hid hb0
  clear hb0 hT hW hs
  rw [show arityOf ⟨#[99, 111, 108]⟩ = 0 by decide] at HT
  go_enter Tryd.func74, Tryd.ntmps74
  go_wp2_with fail
  refine (HT.out).mono ?_
  rintro e w1 ⟨rfl, rfl⟩
  go_wp2_with fail
  refine (HN.out).mono ?_
  rintro e w1 ⟨rfl, hb1⟩
  rw [hk]
  have HB1 := Lib.hid (below_step HB.out hb1)
  have C := Lib.hid (fun (j : Nat) => hb1.cell (p := ⟨w.heap.size, j, none⟩) (by simp))
  have d0 := (C.out 0).trans (show _ = some (.string ⟨#[99, 111, 108]⟩) by simp)
  have d1 := (C.out 1).trans (show _ = some (.string name) by simp)
  have d2 := (C.out 2).trans (show _ = some (.int .i64 t) by simp)
  have d3 := (C.out 3).trans (show _ = some (.int .i64 m) by simp)
  have d4 := (C.out 4).trans (show _ = some (.string s) by simp)
  have d5 := (C.out 5).trans (show _ = some (.slice A n c) by simp)
  clear hb1
  go_wp2_with fail
  go_ret
  exact ⟨rfl, HB1.out⟩
set_option maxHeartbeats 1000000 in
set_option maxRecDepth 100000 in
theorem node_col_t (hT : LevelsT w) (hW : WordsT w) (n : Nat) (_hn : n ≤ maxLen) (hs : name.size ≤ maxLen) (hk : treeName name = true) (h4 : ((n : Int) != 0) = false) (h6 : (t == 0) = false) :
    Calls Tryd.prog 74 #[.agg #[.string ⟨#[99, 111, 108]⟩, .string name, .int .i64 t, .int .i64 m, .string s, .slice A n c, .int .i64 pos]] w (NodeSays 3 w) := by
  have hb0 : Below w.heap.size w (w.alloc (.cells #[.string ⟨#[99, 111, 108]⟩, .string name, .int .i64 t, .int .i64 m, .string s, .slice A n c, .int .i64 pos] 44)) := (Below.refl _ _).alloc (Nat.le_refl _) _
  have HT := Lib.hid (arity_any ⟨#[99, 111, 108]⟩ _ (hT.keep hb0))
  have HN := Lib.hid (tname_any name _ (hW.keep hb0) hs)
  have HB := Lib.hid hb0
  clear hb0 hT hW hs
  rw [show arityOf ⟨#[99, 111, 108]⟩ = 0 by decide] at HT
  go_enter Tryd.func74, Tryd.ntmps74
  go_wp2_with fail
  refine (HT.out).mono ?_
  rintro e w1 ⟨rfl, rfl⟩
  go_wp2_with fail
  refine (HN.out).mono ?_
  rintro e w1 ⟨rfl, hb1⟩
  rw [hk]
  have HB1 := Lib.hid (below_step HB.out hb1)
  have C := Lib.hid (fun (j : Nat) => hb1.cell (p := ⟨w.heap.size, j, none⟩) (by simp))
  have d0 := (C.out 0).trans (show _ = some (.string ⟨#[99, 111, 108]⟩) by simp)
  have d1 := (C.out 1).trans (show _ = some (.string name) by simp)
  have d2 := (C.out 2).trans (show _ = some (.int .i64 t) by simp)
  have d3 := (C.out 3).trans (show _ = some (.int .i64 m) by simp)
  have d4 := (C.out 4).trans (show _ = some (.string s) by simp)
  have d5 := (C.out 5).trans (show _ = some (.slice A n c) by simp)
  clear hb1
  go_wp2_with fail
  go_ret
  exact ⟨rfl, HB1.out⟩
set_option maxHeartbeats 1000000 in
set_option maxRecDepth 100000 in
theorem node_col_m (hT : LevelsT w) (hW : WordsT w) (n : Nat) (_hn : n ≤ maxLen) (hs : name.size ≤ maxLen) (hk : treeName name = true) (h4 : ((n : Int) != 0) = false) (ht : t = 0) (h6 : (m == 0) = false) :
    Calls Tryd.prog 74 #[.agg #[.string ⟨#[99, 111, 108]⟩, .string name, .int .i64 t, .int .i64 m, .string s, .slice A n c, .int .i64 pos]] w (NodeSays 3 w) := by
  have hb0 : Below w.heap.size w (w.alloc (.cells #[.string ⟨#[99, 111, 108]⟩, .string name, .int .i64 t, .int .i64 m, .string s, .slice A n c, .int .i64 pos] 44)) := (Below.refl _ _).alloc (Nat.le_refl _) _
  have HT := Lib.hid (arity_any ⟨#[99, 111, 108]⟩ _ (hT.keep hb0))
  have HN := Lib.hid (tname_any name _ (hW.keep hb0) hs)
  have HB := Lib.hid hb0
  subst ht
  clear hb0 hT hW hs
  rw [show arityOf ⟨#[99, 111, 108]⟩ = 0 by decide] at HT
  go_enter Tryd.func74, Tryd.ntmps74
  go_wp2_with fail
  refine (HT.out).mono ?_
  rintro e w1 ⟨rfl, rfl⟩
  go_wp2_with fail
  refine (HN.out).mono ?_
  rintro e w1 ⟨rfl, hb1⟩
  rw [hk]
  have HB1 := Lib.hid (below_step HB.out hb1)
  have C := Lib.hid (fun (j : Nat) => hb1.cell (p := ⟨w.heap.size, j, none⟩) (by simp))
  have d0 := (C.out 0).trans (show _ = some (.string ⟨#[99, 111, 108]⟩) by simp)
  have d1 := (C.out 1).trans (show _ = some (.string name) by simp)
  have d2 := (C.out 2).trans (show _ = some (.int .i64 0) by simp)
  have d3 := (C.out 3).trans (show _ = some (.int .i64 m) by simp)
  have d4 := (C.out 4).trans (show _ = some (.string s) by simp)
  have d5 := (C.out 5).trans (show _ = some (.slice A n c) by simp)
  clear hb1
  go_wp2_with fail
  go_ret
  exact ⟨rfl, HB1.out⟩
set_option maxHeartbeats 1000000 in
set_option maxRecDepth 100000 in
theorem node_col_s (hT : LevelsT w) (hW : WordsT w) (n : Nat) (_hn : n ≤ maxLen) (hs : name.size ≤ maxLen) (hk : treeName name = true) (h4 : ((n : Int) != 0) = false) (ht : t = 0) (hm : m = 0) (h6 : s.toList.isEmpty = false) :
    Calls Tryd.prog 74 #[.agg #[.string ⟨#[99, 111, 108]⟩, .string name, .int .i64 t, .int .i64 m, .string s, .slice A n c, .int .i64 pos]] w (NodeSays 3 w) := by
  have hb0 : Below w.heap.size w (w.alloc (.cells #[.string ⟨#[99, 111, 108]⟩, .string name, .int .i64 t, .int .i64 m, .string s, .slice A n c, .int .i64 pos] 44)) := (Below.refl _ _).alloc (Nat.le_refl _) _
  have HT := Lib.hid (arity_any ⟨#[99, 111, 108]⟩ _ (hT.keep hb0))
  have HN := Lib.hid (tname_any name _ (hW.keep hb0) hs)
  have HB := Lib.hid hb0
  subst ht hm
  clear hb0 hT hW hs
  rw [show arityOf ⟨#[99, 111, 108]⟩ = 0 by decide] at HT
  go_enter Tryd.func74, Tryd.ntmps74
  go_wp2_with fail
  refine (HT.out).mono ?_
  rintro e w1 ⟨rfl, rfl⟩
  go_wp2_with fail
  refine (HN.out).mono ?_
  rintro e w1 ⟨rfl, hb1⟩
  rw [hk]
  have HB1 := Lib.hid (below_step HB.out hb1)
  have C := Lib.hid (fun (j : Nat) => hb1.cell (p := ⟨w.heap.size, j, none⟩) (by simp))
  have d0 := (C.out 0).trans (show _ = some (.string ⟨#[99, 111, 108]⟩) by simp)
  have d1 := (C.out 1).trans (show _ = some (.string name) by simp)
  have d2 := (C.out 2).trans (show _ = some (.int .i64 0) by simp)
  have d3 := (C.out 3).trans (show _ = some (.int .i64 0) by simp)
  have d4 := (C.out 4).trans (show _ = some (.string s) by simp)
  have d5 := (C.out 5).trans (show _ = some (.slice A n c) by simp)
  clear hb1
  go_wp2_with fail
  go_ret
  exact ⟨rfl, HB1.out⟩
set_option maxHeartbeats 1000000 in
set_option maxRecDepth 100000 in
theorem node_col_ok (hT : LevelsT w) (hW : WordsT w) (n : Nat) (_hn : n ≤ maxLen) (hs : name.size ≤ maxLen) (hk : treeName name = true) (h4 : ((n : Int) != 0) = false) :
    Calls Tryd.prog 74 #[.agg #[.string ⟨#[99, 111, 108]⟩, .string name, .int .i64 0, .int .i64 0, .string ⟨#[]⟩, .slice A n c, .int .i64 pos]] w (NodeSays 0 w) := by
  have hb0 : Below w.heap.size w (w.alloc (.cells #[.string ⟨#[99, 111, 108]⟩, .string name, .int .i64 0, .int .i64 0, .string ⟨#[]⟩, .slice A n c, .int .i64 pos] 44)) := (Below.refl _ _).alloc (Nat.le_refl _) _
  have HT := Lib.hid (arity_any ⟨#[99, 111, 108]⟩ _ (hT.keep hb0))
  have HN := Lib.hid (tname_any name _ (hW.keep hb0) hs)
  have HB := Lib.hid hb0
  clear hb0 hT hW hs
  rw [show arityOf ⟨#[99, 111, 108]⟩ = 0 by decide] at HT
  go_enter Tryd.func74, Tryd.ntmps74
  go_wp2_with fail
  refine (HT.out).mono ?_
  rintro e w1 ⟨rfl, rfl⟩
  go_wp2_with fail
  refine (HN.out).mono ?_
  rintro e w1 ⟨rfl, hb1⟩
  rw [hk]
  have HB1 := Lib.hid (below_step HB.out hb1)
  have C := Lib.hid (fun (j : Nat) => hb1.cell (p := ⟨w.heap.size, j, none⟩) (by simp))
  have d0 := (C.out 0).trans (show _ = some (.string ⟨#[99, 111, 108]⟩) by simp)
  have d1 := (C.out 1).trans (show _ = some (.string name) by simp)
  have d2 := (C.out 2).trans (show _ = some (.int .i64 0) by simp)
  have d3 := (C.out 3).trans (show _ = some (.int .i64 0) by simp)
  have d4 := (C.out 4).trans (show _ = some (.string ⟨#[]⟩) by simp)
  have d5 := (C.out 5).trans (show _ = some (.slice A n c) by simp)
  clear hb1
  go_wp2_with fail
  go_ret
  exact ⟨rfl, HB1.out⟩
set_option maxHeartbeats 1000000 in
set_option maxRecDepth 100000 in
theorem node_val_len (hT : LevelsT w) (hW : WordsT w) (n : Nat) (_hn : n ≤ maxLen) (hs : name.size ≤ maxLen) (h4 : ((n : Int) != 0) = true) :
    Calls Tryd.prog 74 #[.agg #[.string ⟨#[118, 97, 108]⟩, .string name, .int .i64 t, .int .i64 m, .string s, .slice A n c, .int .i64 pos]] w (NodeSays 3 w) := by
  have hb0 : Below w.heap.size w (w.alloc (.cells #[.string ⟨#[118, 97, 108]⟩, .string name, .int .i64 t, .int .i64 m, .string s, .slice A n c, .int .i64 pos] 44)) := (Below.refl _ _).alloc (Nat.le_refl _) _
  have HT := Lib.hid (arity_any ⟨#[118, 97, 108]⟩ _ (hT.keep hb0))
  have HN := Lib.hid (tname_any name _ (hW.keep hb0) hs)
  have HB := Lib.hid hb0
  clear hb0 hT hW hs
  rw [show arityOf ⟨#[118, 97, 108]⟩ = 0 by decide] at HT
  go_enter Tryd.func74, Tryd.ntmps74
  go_wp2_with fail
  refine (HT.out).mono ?_
  rintro e w1 ⟨rfl, rfl⟩
  go_wp2_with fail
  go_ret
  exact ⟨rfl, HB.out⟩
set_option maxHeartbeats 1000000 in
set_option maxRecDepth 100000 in
theorem node_val_name (hT : LevelsT w) (hW : WordsT w) (n : Nat) (_hn : n ≤ maxLen) (hs : name.size ≤ maxLen) (h4 : ((n : Int) != 0) = false) (h5 : name.toList.isEmpty = false) :
    Calls Tryd.prog 74 #[.agg #[.string ⟨#[118, 97, 108]⟩, .string name, .int .i64 t, .int .i64 m, .string s, .slice A n c, .int .i64 pos]] w (NodeSays 3 w) := by
  have hb0 : Below w.heap.size w (w.alloc (.cells #[.string ⟨#[118, 97, 108]⟩, .string name, .int .i64 t, .int .i64 m, .string s, .slice A n c, .int .i64 pos] 44)) := (Below.refl _ _).alloc (Nat.le_refl _) _
  have HT := Lib.hid (arity_any ⟨#[118, 97, 108]⟩ _ (hT.keep hb0))
  have HN := Lib.hid (tname_any name _ (hW.keep hb0) hs)
  have HB := Lib.hid hb0
  have h6 : (!name.toList.isEmpty) = true := by rw [h5]; rfl
  clear hb0 hT hW hs
  rw [show arityOf ⟨#[118, 97, 108]⟩ = 0 by decide] at HT
  go_enter Tryd.func74, Tryd.ntmps74
  go_wp2_with fail
  refine (HT.out).mono ?_
  rintro e w1 ⟨rfl, rfl⟩
  go_wp2_with fail
  go_ret
  exact ⟨rfl, HB.out⟩
set_option maxHeartbeats 1000000 in
set_option maxRecDepth 100000 in
theorem node_val_bad (hT : LevelsT w) (hW : WordsT w) (n : Nat) (_hn : n ≤ maxLen) (hs : name.size ≤ maxLen) (h4 : ((n : Int) != 0) = false) (h5 : name.toList = []) (hk : vcheck ⟨t, m, s⟩ ≠ 0) :
    Calls Tryd.prog 74 #[.agg #[.string ⟨#[118, 97, 108]⟩, .string name, .int .i64 t, .int .i64 m, .string s, .slice A n c, .int .i64 pos]] w (NodeSays (vcheck ⟨t, m, s⟩) w) := by
  have hb0 : Below w.heap.size w (w.alloc (.cells #[.string ⟨#[118, 97, 108]⟩, .string name, .int .i64 t, .int .i64 m, .string s, .slice A n c, .int .i64 pos] 44)) := (Below.refl _ _).alloc (Nat.le_refl _) _
  have HT := Lib.hid (arity_any ⟨#[118, 97, 108]⟩ _ (hT.keep hb0))
  have HN := Lib.hid (tname_any name _ (hW.keep hb0) hs)
  have HB := Lib.hid hb0
  have hk2 := Lib.hid (errV_ne hk)
  clear hk
  clear hb0 hT hW hs
  rw [show arityOf ⟨#[118, 97, 108]⟩ = 0 by decide] at HT
  go_enter Tryd.func74, Tryd.ntmps74
  go_wp2_with fail
  refine (HT.out).mono ?_
  rintro e w1 ⟨rfl, rfl⟩
  go_wp2_with fail
  refine (vcheck_any ⟨t, m, s⟩ _).mono ?_
  rintro e w1 ⟨rfl, hb1⟩
  rw [hk2.out]
  have HB1 := Lib.hid (below_step HB.out hb1)
  have C := Lib.hid (fun (j : Nat) => hb1.cell (p := ⟨w.heap.size, j, none⟩) (by simp))
  have d2 := (C.out 2).trans (show _ = some (.int .i64 t) by simp)
  have d3 := (C.out 3).trans (show _ = some (.int .i64 m) by simp)
  clear hb1
  go_wp2_with fail
  go_ret
  exact ⟨by rw [hk2.out]; rfl, HB1.out⟩
set_option maxHeartbeats 1000000 in
set_option maxRecDepth 100000 in
theorem node_val_neg (hT : LevelsT w) (hW : WordsT w) (n : Nat) (_hn : n ≤ maxLen) (hs : name.size ≤ maxLen) (h4 : ((n : Int) != 0) = false) (h5 : name.toList = []) (hk : vcheck ⟨t, m, s⟩ = 0) (h6 : t = 1) (h7 : decide (m < 0) = true) :
    Calls Tryd.prog 74 #[.agg #[.string ⟨#[118, 97, 108]⟩, .string name, .int .i64 t, .int .i64 m, .string s, .slice A n c, .int .i64 pos]] w (NodeSays 1 w) := by
  have hb0 : Below w.heap.size w (w.alloc (.cells #[.string ⟨#[118, 97, 108]⟩, .string name, .int .i64 t, .int .i64 m, .string s, .slice A n c, .int .i64 pos] 44)) := (Below.refl _ _).alloc (Nat.le_refl _) _
  have HT := Lib.hid (arity_any ⟨#[118, 97, 108]⟩ _ (hT.keep hb0))
  have HN := Lib.hid (tname_any name _ (hW.keep hb0) hs)
  have HB := Lib.hid hb0
  subst h6
  have hk2 := Lib.hid hk
  clear hk
  clear hb0 hT hW hs
  rw [show arityOf ⟨#[118, 97, 108]⟩ = 0 by decide] at HT
  go_enter Tryd.func74, Tryd.ntmps74
  go_wp2_with fail
  refine (HT.out).mono ?_
  rintro e w1 ⟨rfl, rfl⟩
  go_wp2_with fail
  refine (vcheck_any ⟨1, m, s⟩ _).mono ?_
  rintro e w1 ⟨rfl, hb1⟩
  rw [hk2.out, errV_zero]
  have HB1 := Lib.hid (below_step HB.out hb1)
  have C := Lib.hid (fun (j : Nat) => hb1.cell (p := ⟨w.heap.size, j, none⟩) (by simp))
  have d2 := (C.out 2).trans (show _ = some (.int .i64 1) by simp)
  have d3 := (C.out 3).trans (show _ = some (.int .i64 m) by simp)
  clear hb1
  go_wp2_with fail
  go_ret
  exact ⟨rfl, HB1.out⟩
set_option maxHeartbeats 1000000 in
set_option maxRecDepth 100000 in
theorem node_val_ok1 (hT : LevelsT w) (hW : WordsT w) (n : Nat) (_hn : n ≤ maxLen) (hs : name.size ≤ maxLen) (h4 : ((n : Int) != 0) = false) (h5 : name.toList = []) (hk : vcheck ⟨t, m, s⟩ = 0) (h6 : t = 1) (h7 : decide (m < 0) = false) :
    Calls Tryd.prog 74 #[.agg #[.string ⟨#[118, 97, 108]⟩, .string name, .int .i64 t, .int .i64 m, .string s, .slice A n c, .int .i64 pos]] w (NodeSays 0 w) := by
  have hb0 : Below w.heap.size w (w.alloc (.cells #[.string ⟨#[118, 97, 108]⟩, .string name, .int .i64 t, .int .i64 m, .string s, .slice A n c, .int .i64 pos] 44)) := (Below.refl _ _).alloc (Nat.le_refl _) _
  have HT := Lib.hid (arity_any ⟨#[118, 97, 108]⟩ _ (hT.keep hb0))
  have HN := Lib.hid (tname_any name _ (hW.keep hb0) hs)
  have HB := Lib.hid hb0
  subst h6
  have hk2 := Lib.hid hk
  clear hk
  clear hb0 hT hW hs
  rw [show arityOf ⟨#[118, 97, 108]⟩ = 0 by decide] at HT
  go_enter Tryd.func74, Tryd.ntmps74
  go_wp2_with fail
  refine (HT.out).mono ?_
  rintro e w1 ⟨rfl, rfl⟩
  go_wp2_with fail
  refine (vcheck_any ⟨1, m, s⟩ _).mono ?_
  rintro e w1 ⟨rfl, hb1⟩
  rw [hk2.out, errV_zero]
  have HB1 := Lib.hid (below_step HB.out hb1)
  have C := Lib.hid (fun (j : Nat) => hb1.cell (p := ⟨w.heap.size, j, none⟩) (by simp))
  have d2 := (C.out 2).trans (show _ = some (.int .i64 1) by simp)
  have d3 := (C.out 3).trans (show _ = some (.int .i64 m) by simp)
  clear hb1
  go_wp2_with fail
  go_ret
  exact ⟨rfl, HB1.out⟩
set_option maxHeartbeats 1000000 in
set_option maxRecDepth 100000 in
theorem node_val_ok2 (hT : LevelsT w) (hW : WordsT w) (n : Nat) (_hn : n ≤ maxLen) (hs : name.size ≤ maxLen) (h4 : ((n : Int) != 0) = false) (h5 : name.toList = []) (hk : vcheck ⟨t, m, s⟩ = 0) (h6 : (t == 1) = false) :
    Calls Tryd.prog 74 #[.agg #[.string ⟨#[118, 97, 108]⟩, .string name, .int .i64 t, .int .i64 m, .string s, .slice A n c, .int .i64 pos]] w (NodeSays 0 w) := by
  have hb0 : Below w.heap.size w (w.alloc (.cells #[.string ⟨#[118, 97, 108]⟩, .string name, .int .i64 t, .int .i64 m, .string s, .slice A n c, .int .i64 pos] 44)) := (Below.refl _ _).alloc (Nat.le_refl _) _
  have HT := Lib.hid (arity_any ⟨#[118, 97, 108]⟩ _ (hT.keep hb0))
  have HN := Lib.hid (tname_any name _ (hW.keep hb0) hs)
  have HB := Lib.hid hb0
  have hk2 := Lib.hid hk
  clear hk
  clear hb0 hT hW hs
  rw [show arityOf ⟨#[118, 97, 108]⟩ = 0 by decide] at HT
  go_enter Tryd.func74, Tryd.ntmps74
  go_wp2_with fail
  refine (HT.out).mono ?_
  rintro e w1 ⟨rfl, rfl⟩
  go_wp2_with fail
  refine (vcheck_any ⟨t, m, s⟩ _).mono ?_
  rintro e w1 ⟨rfl, hb1⟩
  rw [hk2.out, errV_zero]
  have HB1 := Lib.hid (below_step HB.out hb1)
  have C := Lib.hid (fun (j : Nat) => hb1.cell (p := ⟨w.heap.size, j, none⟩) (by simp))
  have d2 := (C.out 2).trans (show _ = some (.int .i64 t) by simp)
  have d3 := (C.out 3).trans (show _ = some (.int .i64 m) by simp)
  clear hb1
  go_wp2_with fail
  go_ret
  exact ⟨rfl, HB1.out⟩
end
set_option maxHeartbeats 1000000 in
/-- tree.node, at any expression. -/
theorem node_any (e : Ex) (w : World) (hT : LevelsT w) (hW : WordsT w) (hn : e.args.length ≤ maxLen) (hs : e.name.size ≤ maxLen) :
    Calls Tryd.prog 74 #[exV e] w (NodeSays (nodeErr e) w) := by
  obtain ⟨op, name, v, A, c, args, pos⟩ := e
  obtain ⟨t, m, s⟩ := v
  show Calls Tryd.prog 74 #[.agg #[.string op, .string name, .int .i64 t, .int .i64 m, .string s, .slice A args.length c, .int .i64 pos]] w (NodeSays (nodeErrOf op name ⟨t, m, s⟩ args.length) w)
  replace hn : args.length ≤ maxLen := hn
  replace hs : name.size ≤ maxLen := hs
  generalize args.length = n at hn ⊢
  unfold nodeErrOf
  by_cases hc : isCol op
  · obtain rfl : op = ⟨#[99, 111, 108]⟩ := bytes_of hc
    have ha : arityOf ⟨#[99, 111, 108]⟩ = 0 := by decide
    have hv : ¬ isVal ⟨#[99, 111, 108]⟩ := by decide
    rw [ha]
    cases hk : treeName name with
    | false => rw [if_pos (Or.inr ⟨hc, rfl⟩)]; exact node_col_name name A c pos w t m s hT hW n hn hs hk
    | true =>
      rw [if_neg (by simp)]
      by_cases h4 : (n : Int) ≠ 0
      · rw [if_pos (Or.inl h4)]; exact node_col_len name A c pos w t m s hT hW n hn hs hk (by simpa using h4)
      · have h4' : ((n : Int) != 0) = false := by simpa using h4
        by_cases h5 : (⟨t, m, s⟩ : Val) = noVal
        · rw [if_neg (by simp [h5, hc]; omega), if_pos hv]
          injection h5 with a1 a2 a3
          subst a1 a2 a3
          exact node_col_ok name A c pos w hT hW n hn hs hk h4'
        · rw [if_pos (Or.inr (Or.inr ⟨hv, h5⟩))]
          rcases val_ways h5 with h | ⟨h, h'⟩ | ⟨h, h', h''⟩
          · exact node_col_t name A c pos w t m s hT hW n hn hs hk h4' h
          · exact node_col_m name A c pos w t m s hT hW n hn hs hk h4' h h'
          · exact node_col_s name A c pos w t m s hT hW n hn hs hk h4' h h' h''
  by_cases hv : isVal op
  · obtain rfl : op = ⟨#[118, 97, 108]⟩ := bytes_of hv
    have ha : arityOf ⟨#[118, 97, 108]⟩ = 0 := by decide
    rw [ha, if_neg (by simp [hc])]
    by_cases h4 : (n : Int) ≠ 0
    · rw [if_pos (Or.inl h4)]; exact node_val_len name A c pos w t m s hT hW n hn hs (by simpa using h4)
    · have h4' : ((n : Int) != 0) = false := by simpa using h4
      by_cases h5 : name.data.toList = []
      · have h5' := str_empty h5
        rw [if_neg (by simp [h5, hv]; omega), if_neg (by simp [hv])]
        by_cases h6 : vcheck ⟨t, m, s⟩ = 0
        · rw [if_neg (by simp [h6])]
          by_cases h7 : t = 1
          · by_cases h8 : m < 0
            · rw [if_pos ⟨h7, h8⟩]; exact node_val_neg name A c pos w t m s hT hW n hn hs h4' h5' h6 h7 (by simpa using h8)
            · rw [if_neg (fun h => h8 h.2)]; exact node_val_ok1 name A c pos w t m s hT hW n hn hs h4' h5' h6 h7 (by simpa using h8)
          · rw [if_neg (fun h => h7 h.1)]; exact node_val_ok2 name A c pos w t m s hT hW n hn hs h4' h5' h6 (by simpa using h7)
        · rw [if_pos h6]; exact node_val_bad name A c pos w t m s hT hW n hn hs h4' h5' h6
      · rw [if_pos (Or.inr (Or.inl ⟨hc, h5⟩))]; exact node_val_name name A c pos w t m s hT hW n hn hs h4' (str_some h5)
  have e1 := str_ne hc
  have e2 := str_ne hv
  by_cases h3 : arityOf op < 0
  · rw [if_pos (Or.inl h3)]; exact node_other_none op name A c pos w t m s hT hW n hn hs e1 e2 (by simpa using h3)
  have h3' : decide (arityOf op < 0) = false := by simpa using h3
  rw [if_neg (by simp [h3, hc])]
  by_cases h4 : (n : Int) ≠ arityOf op
  · rw [if_pos (Or.inl h4)]; exact node_other_len op name A c pos w t m s hT hW n hn hs e1 e2 h3' (by simpa using h4)
  have h4' : ((n : Int) != arityOf op) = false := by simpa using h4
  by_cases h5 : name.data.toList = []
  · have h5' := str_empty h5
    by_cases h6 : (⟨t, m, s⟩ : Val) = noVal
    · rw [if_neg (by simp [h5, h6]; omega), if_pos hv]
      injection h6 with a1 a2 a3
      subst a1 a2 a3
      exact node_other_ok op name A c pos w hT hW n hn hs e1 e2 h3' h4' h5'
    · rw [if_pos (Or.inr (Or.inr ⟨hv, h6⟩))]
      rcases val_ways h6 with h | ⟨h, h'⟩ | ⟨h, h', h''⟩
      · exact node_other_t op name A c pos w t m s hT hW n hn hs e1 e2 h3' h4' h5' h
      · exact node_other_m op name A c pos w t m s hT hW n hn hs e1 e2 h3' h4' h5' h h'
      · exact node_other_s op name A c pos w t m s hT hW n hn hs e1 e2 h3' h4' h5' h h' h''
  · rw [if_pos (Or.inr (Or.inl ⟨hc, h5⟩))]; exact node_other_name op name A c pos w t m s hT hW n hn hs e1 e2 h3' h4' (str_some h5)
end Go.Proofs.YtapbmknimejldaaDoor
