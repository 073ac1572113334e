/- tree.node, walked: what is wrong with one node. tree.nodes and tree.Check, walked: what is wrong with an expression. How many parts an expression has, plain: sizes, what a check says of its parts. Expressions but for where they lie. -/
import Derived.Test.YtpbbkpfaphjdoaaGreatDoorFTreeName
import Derived.Test.YtpbbkpfaphjdoaaGreatDoorFArity
namespace Go.Proofs.YtpbbkpfaphjdoaaGreatDoor
open Go.ChangeShapes Go.WideShapes Go.ChangeAt Go.RowKit
def isCol (s : ByteArray) : Prop := s.data.toList = [99, 111, 108]
def isVal (s : ByteArray) : Prop := s.data.toList = [118, 97, 108]
instance (s : ByteArray) : Decidable (isCol s) := inferInstanceAs (Decidable (_ = _))
instance (s : ByteArray) : Decidable (isVal s) := inferInstanceAs (Decidable (_ = _))
def nodeErrOf (op name : ByteArray) (v : Val) (n : Nat) : Int :=
 if arityOf op < 0 ∨ isCol op ∧ treeName name = false then 2
 else if (n : Int) ≠ arityOf op ∨ ¬ isCol op ∧ name.data.toList ≠ [] ∨ ¬ isVal op ∧ v ≠ noVal then 3
 else if ¬ isVal op then 0
 else if vcheck v ≠ 0 then vcheck v
 else if v.type = 1 ∧ v.n < 0 then 1 else 0
def nodeErr (e : Ex) : Int := nodeErrOf e.op e.name e.val e.args.length
def NodeSays (k : Int) (w : World) (r : Ending) (w' : World) : Prop := r = .returned (errV k) ∧ Below w.heap.size w w'
theorem val_ways {v : Val} (h : v ≠ noVal) : (v.type == 0) = false ∨ (v.type = 0 ∧ (v.n == 0) = false) ∨ (v.type = 0 ∧ v.n = 0 ∧ v.s.toList.isEmpty = false) := by
 by_cases h1 : v.type = 0
 ·by_cases h2 : v.n = 0
  ·refine Or.inr (Or.inr ⟨h1, h2, str_some fun h3 => h ?_⟩)
   obtain ⟨t, n, s⟩ := v
   simp only at h1 h2 h3
   subst h1 h2
   rw [bytes_of h3]; rfl
  ·exact Or.inr (Or.inl ⟨h1, by simpa using h2⟩)
 ·exact Or.inl (by simpa using h1)
section
variable (op name : ByteArray) (A : Option Addr) (c : Nat) (pos : Int) (w : World) (t m : Int) (s : ByteArray)
set_option maxHeartbeats 1000000 in
set_option maxRecDepth 100000 in
theorem node_other_none (hT : LevelsT w) (hW : WordsT w) (n : Nat) (_hn : n ≤ maxLen) (hs : name.size ≤ maxLen) (_h1 : (op.toList == [99, 111, 108]) = false) (_h2 : (op.toList == [118, 97, 108]) = false) (h3 : decide (arityOf op < 0) = true) :
  Calls Tryz.prog 171 #[.agg #[.string op, .string name, .int .i64 t, .int .i64 m, .string s, .slice A n c, .int .i64 pos]] w (NodeSays 2 w) := by
 have hb0 : Below w.heap.size w (w.alloc (.cells #[.string op, .string name, .int .i64 t, .int .i64 m, .string s, .slice A n c, .int .i64 pos] 26)) := (Below.refl _ _).alloc (Nat.le_refl _) _
 have HT := Lib.hid (arity_any op _ (hT.keep hb0))
 have HN := Lib.hid (tname_any name _ (hW.keep hb0) hs)
 have HB := Lib.hid hb0
 generalize arityOf op = ar at *
 clear hb0 hT hW hs
 go_enter Tryz.func171, Tryz.ntmps171
 go_wp2_with fail
 refine (HT.out).mono ?_
 rintro e w1 ⟨rfl, rfl⟩
 go_wp2_with fail
 go_ret
 exact ⟨rfl, HB.out⟩
set_option maxHeartbeats 1000000 in
set_option maxRecDepth 100000 in
theorem node_other_len (hT : LevelsT w) (hW : WordsT w) (n : Nat) (_hn : n ≤ maxLen) (hs : name.size ≤ maxLen) (h1 : (op.toList == [99, 111, 108]) = false) (_h2 : (op.toList == [118, 97, 108]) = false) (h3 : decide (arityOf op < 0) = false) (h4 : ((n : Int) != arityOf op) = true) :
  Calls Tryz.prog 171 #[.agg #[.string op, .string name, .int .i64 t, .int .i64 m, .string s, .slice A n c, .int .i64 pos]] w (NodeSays 3 w) := by
 have hb0 : Below w.heap.size w (w.alloc (.cells #[.string op, .string name, .int .i64 t, .int .i64 m, .string s, .slice A n c, .int .i64 pos] 26)) := (Below.refl _ _).alloc (Nat.le_refl _) _
 have HT := Lib.hid (arity_any op _ (hT.keep hb0))
 have HN := Lib.hid (tname_any name _ (hW.keep hb0) hs)
 have HB := Lib.hid hb0
 generalize arityOf op = ar at *
 clear hb0 hT hW hs
 go_enter Tryz.func171, Tryz.ntmps171
 go_wp2_with fail
 refine (HT.out).mono ?_
 rintro e w1 ⟨rfl, rfl⟩
 go_wp2_with fail
 go_ret
 exact ⟨rfl, HB.out⟩
set_option maxHeartbeats 1000000 in
set_option maxRecDepth 100000 in
theorem node_other_name (hT : LevelsT w) (hW : WordsT w) (n : Nat) (_hn : n ≤ maxLen) (hs : name.size ≤ maxLen) (h1 : (op.toList == [99, 111, 108]) = false) (_h2 : (op.toList == [118, 97, 108]) = false) (h3 : decide (arityOf op < 0) = false) (h4 : ((n : Int) != arityOf op) = false) (h5 : name.toList.isEmpty = false) :
  Calls Tryz.prog 171 #[.agg #[.string op, .string name, .int .i64 t, .int .i64 m, .string s, .slice A n c, .int .i64 pos]] w (NodeSays 3 w) := by
 have hb0 : Below w.heap.size w (w.alloc (.cells #[.string op, .string name, .int .i64 t, .int .i64 m, .string s, .slice A n c, .int .i64 pos] 26)) := (Below.refl _ _).alloc (Nat.le_refl _) _
 have HT := Lib.hid (arity_any op _ (hT.keep hb0))
 have HN := Lib.hid (tname_any name _ (hW.keep hb0) hs)
 have HB := Lib.hid hb0
 generalize arityOf op = ar at *
 have h6 : (!name.toList.isEmpty) = true := by rw [h5]; rfl
 clear hb0 hT hW hs
 go_enter Tryz.func171, Tryz.ntmps171
 go_wp2_with fail
 refine (HT.out).mono ?_
 rintro e w1 ⟨rfl, rfl⟩
 go_wp2_with fail
 go_ret
 exact ⟨rfl, HB.out⟩
set_option maxHeartbeats 1000000 in
set_option maxRecDepth 100000 in
theorem node_other_t (hT : LevelsT w) (hW : WordsT w) (n : Nat) (_hn : n ≤ maxLen) (hs : name.size ≤ maxLen) (h1 : (op.toList == [99, 111, 108]) = false) (h2 : (op.toList == [118, 97, 108]) = false) (h3 : decide (arityOf op < 0) = false) (h4 : ((n : Int) != arityOf op) = false) (h5 : name.toList = []) (h6 : (t == 0) = false) :
  Calls Tryz.prog 171 #[.agg #[.string op, .string name, .int .i64 t, .int .i64 m, .string s, .slice A n c, .int .i64 pos]] w (NodeSays 3 w) := by
 have hb0 : Below w.heap.size w (w.alloc (.cells #[.string op, .string name, .int .i64 t, .int .i64 m, .string s, .slice A n c, .int .i64 pos] 26)) := (Below.refl _ _).alloc (Nat.le_refl _) _
 have HT := Lib.hid (arity_any op _ (hT.keep hb0))
 have HN := Lib.hid (tname_any name _ (hW.keep hb0) hs)
 have HB := Lib.hid hb0
 generalize arityOf op = ar at *
 clear hb0 hT hW hs
 go_enter Tryz.func171, Tryz.ntmps171
 go_wp2_with fail
 refine (HT.out).mono ?_
 rintro e w1 ⟨rfl, rfl⟩
 go_wp2_with fail
 go_ret
 exact ⟨rfl, HB.out⟩
set_option maxHeartbeats 1000000 in
set_option maxRecDepth 100000 in
theorem node_other_m (hT : LevelsT w) (hW : WordsT w) (n : Nat) (_hn : n ≤ maxLen) (hs : name.size ≤ maxLen) (h1 : (op.toList == [99, 111, 108]) = false) (h2 : (op.toList == [118, 97, 108]) = false) (h3 : decide (arityOf op < 0) = false) (h4 : ((n : Int) != arityOf op) = false) (h5 : name.toList = []) (ht : t = 0) (h6 : (m == 0) = false) :
  Calls Tryz.prog 171 #[.agg #[.string op, .string name, .int .i64 t, .int .i64 m, .string s, .slice A n c, .int .i64 pos]] w (NodeSays 3 w) := by
 have hb0 : Below w.heap.size w (w.alloc (.cells #[.string op, .string name, .int .i64 t, .int .i64 m, .string s, .slice A n c, .int .i64 pos] 26)) := (Below.refl _ _).alloc (Nat.le_refl _) _
 have HT := Lib.hid (arity_any op _ (hT.keep hb0))
 have HN := Lib.hid (tname_any name _ (hW.keep hb0) hs)
 have HB := Lib.hid hb0
 generalize arityOf op = ar at *
 subst ht
 clear hb0 hT hW hs
 go_enter Tryz.func171, Tryz.ntmps171
 go_wp2_with fail
 refine (HT.out).mono ?_
 rintro e w1 ⟨rfl, rfl⟩
 go_wp2_with fail
 go_ret
 exact ⟨rfl, HB.out⟩
set_option maxHeartbeats 1000000 in
set_option maxRecDepth 100000 in
theorem node_other_s (hT : LevelsT w) (hW : WordsT w) (n : Nat) (_hn : n ≤ maxLen) (hs : name.size ≤ maxLen) (h1 : (op.toList == [99, 111, 108]) = false) (h2 : (op.toList == [118, 97, 108]) = false) (h3 : decide (arityOf op < 0) = false) (h4 : ((n : Int) != arityOf op) = false) (h5 : name.toList = []) (ht : t = 0) (hm : m = 0) (h6 : s.toList.isEmpty = false) :
  Calls Tryz.prog 171 #[.agg #[.string op, .string name, .int .i64 t, .int .i64 m, .string s, .slice A n c, .int .i64 pos]] w (NodeSays 3 w) := by
 have hb0 : Below w.heap.size w (w.alloc (.cells #[.string op, .string name, .int .i64 t, .int .i64 m, .string s, .slice A n c, .int .i64 pos] 26)) := (Below.refl _ _).alloc (Nat.le_refl _) _
 have HT := Lib.hid (arity_any op _ (hT.keep hb0))
 have HN := Lib.hid (tname_any name _ (hW.keep hb0) hs)
 have HB := Lib.hid hb0
 generalize arityOf op = ar at *
 subst ht hm
 clear hb0 hT hW hs
 go_enter Tryz.func171, Tryz.ntmps171
 go_wp2_with fail
 refine (HT.out).mono ?_
 rintro e w1 ⟨rfl, rfl⟩
 go_wp2_with fail
 go_ret
 exact ⟨rfl, HB.out⟩
set_option maxHeartbeats 1000000 in
set_option maxRecDepth 100000 in
theorem node_other_ok (hT : LevelsT w) (hW : WordsT w) (n : Nat) (_hn : n ≤ maxLen) (hs : name.size ≤ maxLen) (h1 : (op.toList == [99, 111, 108]) = false) (h2 : (op.toList == [118, 97, 108]) = false) (h3 : decide (arityOf op < 0) = false) (h4 : ((n : Int) != arityOf op) = false) (h5 : name.toList = []) :
  Calls Tryz.prog 171 #[.agg #[.string op, .string name, .int .i64 0, .int .i64 0, .string ⟨#[]⟩, .slice A n c, .int .i64 pos]] w (NodeSays 0 w) := by
 have hb0 : Below w.heap.size w (w.alloc (.cells #[.string op, .string name, .int .i64 0, .int .i64 0, .string ⟨#[]⟩, .slice A n c, .int .i64 pos] 26)) := (Below.refl _ _).alloc (Nat.le_refl _) _
 have HT := Lib.hid (arity_any op _ (hT.keep hb0))
 have HN := Lib.hid (tname_any name _ (hW.keep hb0) hs)
 have HB := Lib.hid hb0
 generalize arityOf op = ar at *
 clear hb0 hT hW hs
 go_enter Tryz.func171, Tryz.ntmps171
 go_wp2_with fail
 refine (HT.out).mono ?_
 rintro e w1 ⟨rfl, rfl⟩
 go_wp2_with fail
 go_ret
 exact ⟨rfl, HB.out⟩
set_option maxHeartbeats 1000000 in
set_option maxRecDepth 100000 in
theorem node_col_name (hT : LevelsT w) (hW : WordsT w) (n : Nat) (_hn : n ≤ maxLen) (hs : name.size ≤ maxLen) (hk : treeName name = false) :
  Calls Tryz.prog 171 #[.agg #[.string ⟨#[99, 111, 108]⟩, .string name, .int .i64 t, .int .i64 m, .string s, .slice A n c, .int .i64 pos]] w (NodeSays 2 w) := by
 have hb0 : Below w.heap.size w (w.alloc (.cells #[.string ⟨#[99, 111, 108]⟩, .string name, .int .i64 t, .int .i64 m, .string s, .slice A n c, .int .i64 pos] 26)) := (Below.refl _ _).alloc (Nat.le_refl _) _
 have HT := Lib.hid (arity_any ⟨#[99, 111, 108]⟩ _ (hT.keep hb0))
 have HN := Lib.hid (tname_any name _ (hW.keep hb0) hs)
 have HB := Lib.hid hb0
 clear hb0 hT hW hs
 rw [show arityOf ⟨#[99, 111, 108]⟩ = 0 by decide] at HT
 go_enter Tryz.func171, Tryz.ntmps171
 go_wp2_with fail
 refine (HT.out).mono ?_
 rintro e w1 ⟨rfl, rfl⟩
 go_wp2_with fail
 refine (HN.out).mono ?_
 rintro e w1 ⟨rfl, hb1⟩
 rw [hk]
 have HB1 := Lib.hid (below_step HB.out hb1)
 have C := Lib.hid (fun (j : Nat) => hb1.cell (p := ⟨w.heap.size, j, none⟩) (by simp))
 have d0 := (C.out 0).trans (show _ = some (.string ⟨#[99, 111, 108]⟩) by simp)
 have d1 := (C.out 1).trans (show _ = some (.string name) by simp)
 have d2 := (C.out 2).trans (show _ = some (.int .i64 t) by simp)
 have d3 := (C.out 3).trans (show _ = some (.int .i64 m) by simp)
 have d4 := (C.out 4).trans (show _ = some (.string s) by simp)
 have d5 := (C.out 5).trans (show _ = some (.slice A n c) by simp)
 clear hb1
 go_wp2_with fail
 go_ret
 exact ⟨rfl, HB1.out⟩
set_option maxHeartbeats 1000000 in
set_option maxRecDepth 100000 in
theorem node_col_len (hT : LevelsT w) (hW : WordsT w) (n : Nat) (_hn : n ≤ maxLen) (hs : name.size ≤ maxLen) (hk : treeName name = true) (h4 : ((n : Int) != 0) = true) :
  Calls Tryz.prog 171 #[.agg #[.string ⟨#[99, 111, 108]⟩, .string name, .int .i64 t, .int .i64 m, .string s, .slice A n c, .int .i64 pos]] w (NodeSays 3 w) := by
 have hb0 : Below w.heap.size w (w.alloc (.cells #[.string ⟨#[99, 111, 108]⟩, .string name, .int .i64 t, .int .i64 m, .string s, .slice A n c, .int .i64 pos] 26)) := (Below.refl _ _).alloc (Nat.le_refl _) _
 have HT := Lib.hid (arity_any ⟨#[99, 111, 108]⟩ _ (hT.keep hb0))
 have HN := Lib.hid (tname_any name _ (hW.keep hb0) hs)
 have HB := Lib.hid hb0
 clear hb0 hT hW hs
 rw [show arityOf ⟨#[99, 111, 108]⟩ = 0 by decide] at HT
 go_enter Tryz.func171, Tryz.ntmps171
 go_wp2_with fail
 refine (HT.out).mono ?_
 rintro e w1 ⟨rfl, rfl⟩
 go_wp2_with fail
 refine (HN.out).mono ?_
 rintro e w1 ⟨rfl, hb1⟩
 rw [hk]
 have HB1 := Lib.hid (below_step HB.out hb1)
 have C := Lib.hid (fun (j : Nat) => hb1.cell (p := ⟨w.heap.size, j, none⟩) (by simp))
 have d0 := (C.out 0).trans (show _ = some (.string ⟨#[99, 111, 108]⟩) by simp)
 have d1 := (C.out 1).trans (show _ = some (.string name) by simp)
 have d2 := (C.out 2).trans (show _ = some (.int .i64 t) by simp)
 have d3 := (C.out 3).trans (show _ = some (.int .i64 m) by simp)
 have d4 := (C.out 4).trans (show _ = some (.string s) by simp)
 have d5 := (C.out 5).trans (show _ = some (.slice A n c) by simp)
 clear hb1
 go_wp2_with fail
 go_ret
 exact ⟨rfl, HB1.out⟩
set_option maxHeartbeats 1000000 in
set_option maxRecDepth 100000 in
theorem node_col_t (hT : LevelsT w) (hW : WordsT w) (n : Nat) (_hn : n ≤ maxLen) (hs : name.size ≤ maxLen) (hk : treeName name = true) (h4 : ((n : Int) != 0) = false) (h6 : (t == 0) = false) :
  Calls Tryz.prog 171 #[.agg #[.string ⟨#[99, 111, 108]⟩, .string name, .int .i64 t, .int .i64 m, .string s, .slice A n c, .int .i64 pos]] w (NodeSays 3 w) := by
 have hb0 : Below w.heap.size w (w.alloc (.cells #[.string ⟨#[99, 111, 108]⟩, .string name, .int .i64 t, .int .i64 m, .string s, .slice A n c, .int .i64 pos] 26)) := (Below.refl _ _).alloc (Nat.le_refl _) _
 have HT := Lib.hid (arity_any ⟨#[99, 111, 108]⟩ _ (hT.keep hb0))
 have HN := Lib.hid (tname_any name _ (hW.keep hb0) hs)
 have HB := Lib.hid hb0
 clear hb0 hT hW hs
 rw [show arityOf ⟨#[99, 111, 108]⟩ = 0 by decide] at HT
 go_enter Tryz.func171, Tryz.ntmps171
 go_wp2_with fail
 refine (HT.out).mono ?_
 rintro e w1 ⟨rfl, rfl⟩
 go_wp2_with fail
 refine (HN.out).mono ?_
 rintro e w1 ⟨rfl, hb1⟩
 rw [hk]
 have HB1 := Lib.hid (below_step HB.out hb1)
 have C := Lib.hid (fun (j : Nat) => hb1.cell (p := ⟨w.heap.size, j, none⟩) (by simp))
 have d0 := (C.out 0).trans (show _ = some (.string ⟨#[99, 111, 108]⟩) by simp)
 have d1 := (C.out 1).trans (show _ = some (.string name) by simp)
 have d2 := (C.out 2).trans (show _ = some (.int .i64 t) by simp)
 have d3 := (C.out 3).trans (show _ = some (.int .i64 m) by simp)
 have d4 := (C.out 4).trans (show _ = some (.string s) by simp)
 have d5 := (C.out 5).trans (show _ = some (.slice A n c) by simp)
 clear hb1
 go_wp2_with fail
 go_ret
 exact ⟨rfl, HB1.out⟩
set_option maxHeartbeats 1000000 in
set_option maxRecDepth 100000 in
theorem node_col_m (hT : LevelsT w) (hW : WordsT w) (n : Nat) (_hn : n ≤ maxLen) (hs : name.size ≤ maxLen) (hk : treeName name = true) (h4 : ((n : Int) != 0) = false) (ht : t = 0) (h6 : (m == 0) = false) :
  Calls Tryz.prog 171 #[.agg #[.string ⟨#[99, 111, 108]⟩, .string name, .int .i64 t, .int .i64 m, .string s, .slice A n c, .int .i64 pos]] w (NodeSays 3 w) := by
 have hb0 : Below w.heap.size w (w.alloc (.cells #[.string ⟨#[99, 111, 108]⟩, .string name, .int .i64 t, .int .i64 m, .string s, .slice A n c, .int .i64 pos] 26)) := (Below.refl _ _).alloc (Nat.le_refl _) _
 have HT := Lib.hid (arity_any ⟨#[99, 111, 108]⟩ _ (hT.keep hb0))
 have HN := Lib.hid (tname_any name _ (hW.keep hb0) hs)
 have HB := Lib.hid hb0
 subst ht
 clear hb0 hT hW hs
 rw [show arityOf ⟨#[99, 111, 108]⟩ = 0 by decide] at HT
 go_enter Tryz.func171, Tryz.ntmps171
 go_wp2_with fail
 refine (HT.out).mono ?_
 rintro e w1 ⟨rfl, rfl⟩
 go_wp2_with fail
 refine (HN.out).mono ?_
 rintro e w1 ⟨rfl, hb1⟩
 rw [hk]
 have HB1 := Lib.hid (below_step HB.out hb1)
 have C := Lib.hid (fun (j : Nat) => hb1.cell (p := ⟨w.heap.size, j, none⟩) (by simp))
 have d0 := (C.out 0).trans (show _ = some (.string ⟨#[99, 111, 108]⟩) by simp)
 have d1 := (C.out 1).trans (show _ = some (.string name) by simp)
 have d2 := (C.out 2).trans (show _ = some (.int .i64 0) by simp)
 have d3 := (C.out 3).trans (show _ = some (.int .i64 m) by simp)
 have d4 := (C.out 4).trans (show _ = some (.string s) by simp)
 have d5 := (C.out 5).trans (show _ = some (.slice A n c) by simp)
 clear hb1
 go_wp2_with fail
 go_ret
 exact ⟨rfl, HB1.out⟩
set_option maxHeartbeats 1000000 in
set_option maxRecDepth 100000 in
theorem node_col_s (hT : LevelsT w) (hW : WordsT w) (n : Nat) (_hn : n ≤ maxLen) (hs : name.size ≤ maxLen) (hk : treeName name = true) (h4 : ((n : Int) != 0) = false) (ht : t = 0) (hm : m = 0) (h6 : s.toList.isEmpty = false) :
  Calls Tryz.prog 171 #[.agg #[.string ⟨#[99, 111, 108]⟩, .string name, .int .i64 t, .int .i64 m, .string s, .slice A n c, .int .i64 pos]] w (NodeSays 3 w) := by
 have hb0 : Below w.heap.size w (w.alloc (.cells #[.string ⟨#[99, 111, 108]⟩, .string name, .int .i64 t, .int .i64 m, .string s, .slice A n c, .int .i64 pos] 26)) := (Below.refl _ _).alloc (Nat.le_refl _) _
 have HT := Lib.hid (arity_any ⟨#[99, 111, 108]⟩ _ (hT.keep hb0))
 have HN := Lib.hid (tname_any name _ (hW.keep hb0) hs)
 have HB := Lib.hid hb0
 subst ht hm
 clear hb0 hT hW hs
 rw [show arityOf ⟨#[99, 111, 108]⟩ = 0 by decide] at HT
 go_enter Tryz.func171, Tryz.ntmps171
 go_wp2_with fail
 refine (HT.out).mono ?_
 rintro e w1 ⟨rfl, rfl⟩
 go_wp2_with fail
 refine (HN.out).mono ?_
 rintro e w1 ⟨rfl, hb1⟩
 rw [hk]
 have HB1 := Lib.hid (below_step HB.out hb1)
 have C := Lib.hid (fun (j : Nat) => hb1.cell (p := ⟨w.heap.size, j, none⟩) (by simp))
 have d0 := (C.out 0).trans (show _ = some (.string ⟨#[99, 111, 108]⟩) by simp)
 have d1 := (C.out 1).trans (show _ = some (.string name) by simp)
 have d2 := (C.out 2).trans (show _ = some (.int .i64 0) by simp)
 have d3 := (C.out 3).trans (show _ = some (.int .i64 0) by simp)
 have d4 := (C.out 4).trans (show _ = some (.string s) by simp)
 have d5 := (C.out 5).trans (show _ = some (.slice A n c) by simp)
 clear hb1
 go_wp2_with fail
 go_ret
 exact ⟨rfl, HB1.out⟩
set_option maxHeartbeats 1000000 in
set_option maxRecDepth 100000 in
theorem node_col_ok (hT : LevelsT w) (hW : WordsT w) (n : Nat) (_hn : n ≤ maxLen) (hs : name.size ≤ maxLen) (hk : treeName name = true) (h4 : ((n : Int) != 0) = false) :
  Calls Tryz.prog 171 #[.agg #[.string ⟨#[99, 111, 108]⟩, .string name, .int .i64 0, .int .i64 0, .string ⟨#[]⟩, .slice A n c, .int .i64 pos]] w (NodeSays 0 w) := by
 have hb0 : Below w.heap.size w (w.alloc (.cells #[.string ⟨#[99, 111, 108]⟩, .string name, .int .i64 0, .int .i64 0, .string ⟨#[]⟩, .slice A n c, .int .i64 pos] 26)) := (Below.refl _ _).alloc (Nat.le_refl _) _
 have HT := Lib.hid (arity_any ⟨#[99, 111, 108]⟩ _ (hT.keep hb0))
 have HN := Lib.hid (tname_any name _ (hW.keep hb0) hs)
 have HB := Lib.hid hb0
 clear hb0 hT hW hs
 rw [show arityOf ⟨#[99, 111, 108]⟩ = 0 by decide] at HT
 go_enter Tryz.func171, Tryz.ntmps171
 go_wp2_with fail
 refine (HT.out).mono ?_
 rintro e w1 ⟨rfl, rfl⟩
 go_wp2_with fail
 refine (HN.out).mono ?_
 rintro e w1 ⟨rfl, hb1⟩
 rw [hk]
 have HB1 := Lib.hid (below_step HB.out hb1)
 have C := Lib.hid (fun (j : Nat) => hb1.cell (p := ⟨w.heap.size, j, none⟩) (by simp))
 have d0 := (C.out 0).trans (show _ = some (.string ⟨#[99, 111, 108]⟩) by simp)
 have d1 := (C.out 1).trans (show _ = some (.string name) by simp)
 have d2 := (C.out 2).trans (show _ = some (.int .i64 0) by simp)
 have d3 := (C.out 3).trans (show _ = some (.int .i64 0) by simp)
 have d4 := (C.out 4).trans (show _ = some (.string ⟨#[]⟩) by simp)
 have d5 := (C.out 5).trans (show _ = some (.slice A n c) by simp)
 clear hb1
 go_wp2_with fail
 go_ret
 exact ⟨rfl, HB1.out⟩
set_option maxHeartbeats 1000000 in
set_option maxRecDepth 100000 in
theorem node_val_len (hT : LevelsT w) (hW : WordsT w) (n : Nat) (_hn : n ≤ maxLen) (hs : name.size ≤ maxLen) (h4 : ((n : Int) != 0) = true) :
  Calls Tryz.prog 171 #[.agg #[.string ⟨#[118, 97, 108]⟩, .string name, .int .i64 t, .int .i64 m, .string s, .slice A n c, .int .i64 pos]] w (NodeSays 3 w) := by
 have hb0 : Below w.heap.size w (w.alloc (.cells #[.string ⟨#[118, 97, 108]⟩, .string name, .int .i64 t, .int .i64 m, .string s, .slice A n c, .int .i64 pos] 26)) := (Below.refl _ _).alloc (Nat.le_refl _) _
 have HT := Lib.hid (arity_any ⟨#[118, 97, 108]⟩ _ (hT.keep hb0))
 have HN := Lib.hid (tname_any name _ (hW.keep hb0) hs)
 have HB := Lib.hid hb0
 clear hb0 hT hW hs
 rw [show arityOf ⟨#[118, 97, 108]⟩ = 0 by decide] at HT
 go_enter Tryz.func171, Tryz.ntmps171
 go_wp2_with fail
 refine (HT.out).mono ?_
 rintro e w1 ⟨rfl, rfl⟩
 go_wp2_with fail
 go_ret
 exact ⟨rfl, HB.out⟩
set_option maxHeartbeats 1000000 in
set_option maxRecDepth 100000 in
theorem node_val_name (hT : LevelsT w) (hW : WordsT w) (n : Nat) (_hn : n ≤ maxLen) (hs : name.size ≤ maxLen) (h4 : ((n : Int) != 0) = false) (h5 : name.toList.isEmpty = false) :
  Calls Tryz.prog 171 #[.agg #[.string ⟨#[118, 97, 108]⟩, .string name, .int .i64 t, .int .i64 m, .string s, .slice A n c, .int .i64 pos]] w (NodeSays 3 w) := by
 have hb0 : Below w.heap.size w (w.alloc (.cells #[.string ⟨#[118, 97, 108]⟩, .string name, .int .i64 t, .int .i64 m, .string s, .slice A n c, .int .i64 pos] 26)) := (Below.refl _ _).alloc (Nat.le_refl _) _
 have HT := Lib.hid (arity_any ⟨#[118, 97, 108]⟩ _ (hT.keep hb0))
 have HN := Lib.hid (tname_any name _ (hW.keep hb0) hs)
 have HB := Lib.hid hb0
 have h6 : (!name.toList.isEmpty) = true := by rw [h5]; rfl
 clear hb0 hT hW hs
 rw [show arityOf ⟨#[118, 97, 108]⟩ = 0 by decide] at HT
 go_enter Tryz.func171, Tryz.ntmps171
 go_wp2_with fail
 refine (HT.out).mono ?_
 rintro e w1 ⟨rfl, rfl⟩
 go_wp2_with fail
 go_ret
 exact ⟨rfl, HB.out⟩
set_option maxHeartbeats 1000000 in
set_option maxRecDepth 100000 in
theorem node_val_bad (hT : LevelsT w) (hW : WordsT w) (n : Nat) (_hn : n ≤ maxLen) (hs : name.size ≤ maxLen) (h4 : ((n : Int) != 0) = false) (h5 : name.toList = []) (hk : vcheck ⟨t, m, s⟩ ≠ 0) :
  Calls Tryz.prog 171 #[.agg #[.string ⟨#[118, 97, 108]⟩, .string name, .int .i64 t, .int .i64 m, .string s, .slice A n c, .int .i64 pos]] w (NodeSays (vcheck ⟨t, m, s⟩) w) := by
 have hb0 : Below w.heap.size w (w.alloc (.cells #[.string ⟨#[118, 97, 108]⟩, .string name, .int .i64 t, .int .i64 m, .string s, .slice A n c, .int .i64 pos] 26)) := (Below.refl _ _).alloc (Nat.le_refl _) _
 have HT := Lib.hid (arity_any ⟨#[118, 97, 108]⟩ _ (hT.keep hb0))
 have HN := Lib.hid (tname_any name _ (hW.keep hb0) hs)
 have HB := Lib.hid hb0
 have hk2 := Lib.hid (errV_ne hk)
 clear hk
 clear hb0 hT hW hs
 rw [show arityOf ⟨#[118, 97, 108]⟩ = 0 by decide] at HT
 go_enter Tryz.func171, Tryz.ntmps171
 go_wp2_with fail
 refine (HT.out).mono ?_
 rintro e w1 ⟨rfl, rfl⟩
 go_wp2_with fail
 refine (vcheck_any ⟨t, m, s⟩ _).mono ?_
 rintro e w1 ⟨rfl, hb1⟩
 rw [hk2.out]
 have HB1 := Lib.hid (below_step HB.out hb1)
 have C := Lib.hid (fun (j : Nat) => hb1.cell (p := ⟨w.heap.size, j, none⟩) (by simp))
 have d2 := (C.out 2).trans (show _ = some (.int .i64 t) by simp)
 have d3 := (C.out 3).trans (show _ = some (.int .i64 m) by simp)
 clear hb1
 go_wp2_with fail
 go_ret
 exact ⟨by rw [hk2.out]; rfl, HB1.out⟩
set_option maxHeartbeats 1000000 in
set_option maxRecDepth 100000 in
theorem node_val_neg (hT : LevelsT w) (hW : WordsT w) (n : Nat) (_hn : n ≤ maxLen) (hs : name.size ≤ maxLen) (h4 : ((n : Int) != 0) = false) (h5 : name.toList = []) (hk : vcheck ⟨t, m, s⟩ = 0) (h6 : t = 1) (h7 : decide (m < 0) = true) :
  Calls Tryz.prog 171 #[.agg #[.string ⟨#[118, 97, 108]⟩, .string name, .int .i64 t, .int .i64 m, .string s, .slice A n c, .int .i64 pos]] w (NodeSays 1 w) := by
 have hb0 : Below w.heap.size w (w.alloc (.cells #[.string ⟨#[118, 97, 108]⟩, .string name, .int .i64 t, .int .i64 m, .string s, .slice A n c, .int .i64 pos] 26)) := (Below.refl _ _).alloc (Nat.le_refl _) _
 have HT := Lib.hid (arity_any ⟨#[118, 97, 108]⟩ _ (hT.keep hb0))
 have HN := Lib.hid (tname_any name _ (hW.keep hb0) hs)
 have HB := Lib.hid hb0
 subst h6
 have hk2 := Lib.hid hk
 clear hk
 clear hb0 hT hW hs
 rw [show arityOf ⟨#[118, 97, 108]⟩ = 0 by decide] at HT
 go_enter Tryz.func171, Tryz.ntmps171
 go_wp2_with fail
 refine (HT.out).mono ?_
 rintro e w1 ⟨rfl, rfl⟩
 go_wp2_with fail
 refine (vcheck_any ⟨1, m, s⟩ _).mono ?_
 rintro e w1 ⟨rfl, hb1⟩
 rw [hk2.out, errV_zero]
 have HB1 := Lib.hid (below_step HB.out hb1)
 have C := Lib.hid (fun (j : Nat) => hb1.cell (p := ⟨w.heap.size, j, none⟩) (by simp))
 have d2 := (C.out 2).trans (show _ = some (.int .i64 1) by simp)
 have d3 := (C.out 3).trans (show _ = some (.int .i64 m) by simp)
 clear hb1
 go_wp2_with fail
 go_ret
 exact ⟨rfl, HB1.out⟩
set_option maxHeartbeats 1000000 in
set_option maxRecDepth 100000 in
theorem node_val_ok1 (hT : LevelsT w) (hW : WordsT w) (n : Nat) (_hn : n ≤ maxLen) (hs : name.size ≤ maxLen) (h4 : ((n : Int) != 0) = false) (h5 : name.toList = []) (hk : vcheck ⟨t, m, s⟩ = 0) (h6 : t = 1) (h7 : decide (m < 0) = false) :
  Calls Tryz.prog 171 #[.agg #[.string ⟨#[118, 97, 108]⟩, .string name, .int .i64 t, .int .i64 m, .string s, .slice A n c, .int .i64 pos]] w (NodeSays 0 w) := by
 have hb0 : Below w.heap.size w (w.alloc (.cells #[.string ⟨#[118, 97, 108]⟩, .string name, .int .i64 t, .int .i64 m, .string s, .slice A n c, .int .i64 pos] 26)) := (Below.refl _ _).alloc (Nat.le_refl _) _
 have HT := Lib.hid (arity_any ⟨#[118, 97, 108]⟩ _ (hT.keep hb0))
 have HN := Lib.hid (tname_any name _ (hW.keep hb0) hs)
 have HB := Lib.hid hb0
 subst h6
 have hk2 := Lib.hid hk
 clear hk
 clear hb0 hT hW hs
 rw [show arityOf ⟨#[118, 97, 108]⟩ = 0 by decide] at HT
 go_enter Tryz.func171, Tryz.ntmps171
 go_wp2_with fail
 refine (HT.out).mono ?_
 rintro e w1 ⟨rfl, rfl⟩
 go_wp2_with fail
 refine (vcheck_any ⟨1, m, s⟩ _).mono ?_
 rintro e w1 ⟨rfl, hb1⟩
 rw [hk2.out, errV_zero]
 have HB1 := Lib.hid (below_step HB.out hb1)
 have C := Lib.hid (fun (j : Nat) => hb1.cell (p := ⟨w.heap.size, j, none⟩) (by simp))
 have d2 := (C.out 2).trans (show _ = some (.int .i64 1) by simp)
 have d3 := (C.out 3).trans (show _ = some (.int .i64 m) by simp)
 clear hb1
 go_wp2_with fail
 go_ret
 exact ⟨rfl, HB1.out⟩
set_option maxHeartbeats 1000000 in
set_option maxRecDepth 100000 in
theorem node_val_ok2 (hT : LevelsT w) (hW : WordsT w) (n : Nat) (_hn : n ≤ maxLen) (hs : name.size ≤ maxLen) (h4 : ((n : Int) != 0) = false) (h5 : name.toList = []) (hk : vcheck ⟨t, m, s⟩ = 0) (h6 : (t == 1) = false) :
  Calls Tryz.prog 171 #[.agg #[.string ⟨#[118, 97, 108]⟩, .string name, .int .i64 t, .int .i64 m, .string s, .slice A n c, .int .i64 pos]] w (NodeSays 0 w) := by
 have hb0 : Below w.heap.size w (w.alloc (.cells #[.string ⟨#[118, 97, 108]⟩, .string name, .int .i64 t, .int .i64 m, .string s, .slice A n c, .int .i64 pos] 26)) := (Below.refl _ _).alloc (Nat.le_refl _) _
 have HT := Lib.hid (arity_any ⟨#[118, 97, 108]⟩ _ (hT.keep hb0))
 have HN := Lib.hid (tname_any name _ (hW.keep hb0) hs)
 have HB := Lib.hid hb0
 have hk2 := Lib.hid hk
 clear hk
 clear hb0 hT hW hs
 rw [show arityOf ⟨#[118, 97, 108]⟩ = 0 by decide] at HT
 go_enter Tryz.func171, Tryz.ntmps171
 go_wp2_with fail
 refine (HT.out).mono ?_
 rintro e w1 ⟨rfl, rfl⟩
 go_wp2_with fail
 refine (vcheck_any ⟨t, m, s⟩ _).mono ?_
 rintro e w1 ⟨rfl, hb1⟩
 rw [hk2.out, errV_zero]
 have HB1 := Lib.hid (below_step HB.out hb1)
 have C := Lib.hid (fun (j : Nat) => hb1.cell (p := ⟨w.heap.size, j, none⟩) (by simp))
 have d2 := (C.out 2).trans (show _ = some (.int .i64 t) by simp)
 have d3 := (C.out 3).trans (show _ = some (.int .i64 m) by simp)
 clear hb1
 go_wp2_with fail
 go_ret
 exact ⟨rfl, HB1.out⟩
end
set_option maxHeartbeats 1000000 in
theorem node_any (e : Ex) (w : World) (hT : LevelsT w) (hW : WordsT w) (hn : e.args.length ≤ maxLen) (hs : e.name.size ≤ maxLen) :
  Calls Tryz.prog 171 #[exV e] w (NodeSays (nodeErr e) w) := by
 obtain ⟨op, name, v, A, c, args, pos⟩ := e
 obtain ⟨t, m, s⟩ := v
 show Calls Tryz.prog 171 #[.agg #[.string op, .string name, .int .i64 t, .int .i64 m, .string s, .slice A args.length c, .int .i64 pos]] w (NodeSays (nodeErrOf op name ⟨t, m, s⟩ args.length) w)
 replace hn : args.length ≤ maxLen := hn
 replace hs : name.size ≤ maxLen := hs
 generalize args.length = n at hn ⊢
 unfold nodeErrOf
 by_cases hc : isCol op
 ·obtain rfl : op = ⟨#[99, 111, 108]⟩ := bytes_of hc
  have ha : arityOf ⟨#[99, 111, 108]⟩ = 0 := by decide
  have hv : ¬ isVal ⟨#[99, 111, 108]⟩ := by decide
  rw [ha]
  cases hk : treeName name with
  | false => rw [if_pos (Or.inr ⟨hc, rfl⟩)]; exact node_col_name name A c pos w t m s hT hW n hn hs hk
  | true =>
   rw [if_neg (by simp)]
   by_cases h4 : (n : Int) ≠ 0
   ·rw [if_pos (Or.inl h4)]; exact node_col_len name A c pos w t m s hT hW n hn hs hk (by simpa using h4)
   ·have h4' : ((n : Int) != 0) = false := by simpa using h4
    by_cases h5 : (⟨t, m, s⟩ : Val) = noVal
    ·rw [if_neg (by simp [h5, hc]; omega), if_pos hv]
     injection h5 with a1 a2 a3
     subst a1 a2 a3
     exact node_col_ok name A c pos w hT hW n hn hs hk h4'
    ·rw [if_pos (Or.inr (Or.inr ⟨hv, h5⟩))]
     rcases val_ways h5 with h | ⟨h, h'⟩ | ⟨h, h', h''⟩
     ·exact node_col_t name A c pos w t m s hT hW n hn hs hk h4' h
     ·exact node_col_m name A c pos w t m s hT hW n hn hs hk h4' h h'
     ·exact node_col_s name A c pos w t m s hT hW n hn hs hk h4' h h' h''
 by_cases hv : isVal op
 ·obtain rfl : op = ⟨#[118, 97, 108]⟩ := bytes_of hv
  have ha : arityOf ⟨#[118, 97, 108]⟩ = 0 := by decide
  rw [ha, if_neg (by simp [hc])]
  by_cases h4 : (n : Int) ≠ 0
  ·rw [if_pos (Or.inl h4)]; exact node_val_len name A c pos w t m s hT hW n hn hs (by simpa using h4)
  ·have h4' : ((n : Int) != 0) = false := by simpa using h4
   by_cases h5 : name.data.toList = []
   ·have h5' := str_empty h5
    rw [if_neg (by simp [h5, hv]; omega), if_neg (by simp [hv])]
    by_cases h6 : vcheck ⟨t, m, s⟩ = 0
    ·rw [if_neg (by simp [h6])]
     by_cases h7 : t = 1
     ·by_cases h8 : m < 0
      ·rw [if_pos ⟨h7, h8⟩]; exact node_val_neg name A c pos w t m s hT hW n hn hs h4' h5' h6 h7 (by simpa using h8)
      ·rw [if_neg (fun h => h8 h.2)]; exact node_val_ok1 name A c pos w t m s hT hW n hn hs h4' h5' h6 h7 (by simpa using h8)
     ·rw [if_neg (fun h => h7 h.1)]; exact node_val_ok2 name A c pos w t m s hT hW n hn hs h4' h5' h6 (by simpa using h7)
    ·rw [if_pos h6]; exact node_val_bad name A c pos w t m s hT hW n hn hs h4' h5' h6
   ·rw [if_pos (Or.inr (Or.inl ⟨hc, h5⟩))]; exact node_val_name name A c pos w t m s hT hW n hn hs h4' (str_some h5)
 have e1 := str_ne hc
 have e2 := str_ne hv
 by_cases h3 : arityOf op < 0
 ·rw [if_pos (Or.inl h3)]; exact node_other_none op name A c pos w t m s hT hW n hn hs e1 e2 (by simpa using h3)
 have h3' : decide (arityOf op < 0) = false := by simpa using h3
 rw [if_neg (by simp [h3, hc])]
 by_cases h4 : (n : Int) ≠ arityOf op
 ·rw [if_pos (Or.inl h4)]; exact node_other_len op name A c pos w t m s hT hW n hn hs e1 e2 h3' (by simpa using h4)
 have h4' : ((n : Int) != arityOf op) = false := by simpa using h4
 by_cases h5 : name.data.toList = []
 ·have h5' := str_empty h5
  by_cases h6 : (⟨t, m, s⟩ : Val) = noVal
  ·rw [if_neg (by simp [h5, h6]; omega), if_pos hv]
   injection h6 with a1 a2 a3
   subst a1 a2 a3
   exact node_other_ok op name A c pos w hT hW n hn hs e1 e2 h3' h4' h5'
  ·rw [if_pos (Or.inr (Or.inr ⟨hv, h6⟩))]
   rcases val_ways h6 with h | ⟨h, h'⟩ | ⟨h, h', h''⟩
   ·exact node_other_t op name A c pos w t m s hT hW n hn hs e1 e2 h3' h4' h5' h
   ·exact node_other_m op name A c pos w t m s hT hW n hn hs e1 e2 h3' h4' h5' h h'
   ·exact node_other_s op name A c pos w t m s hT hW n hn hs e1 e2 h3' h4' h5' h h' h''
 ·rw [if_pos (Or.inr (Or.inl ⟨hc, h5⟩))]; exact node_other_name op name A c pos w t m s hT hW n hn hs e1 e2 h3' h4' (str_some h5)
end Go.Proofs.YtpbbkpfaphjdoaaGreatDoor
namespace Go.Proofs.YtpbbkpfaphjdoaaGreatDoor
open Go.ChangeShapes Go.WideShapes Go.ChangeAt Go.RowKit
mutual
def nodesErr : Ex → Int
 | .mk op name v _ _ args _ => if nodeErrOf op name v args.length ≠ 0 then nodeErrOf op name v args.length else nodesErrs args
def nodesErrs : List Ex → Int
 | [] => 0
 | a :: l => if nodesErr a ≠ 0 then nodesErr a else nodesErrs l
end
theorem nodesErr_eq (e : Ex) : nodesErr e = if nodeErr e ≠ 0 then nodeErr e else nodesErrs e.args := by cases e; rw [nodesErr]; rfl
theorem nodesErrs_hit : ∀ {l : List Ex} {k : Nat} {a : Ex}, nodesErrs (l.take k) = 0 → l[k]? = some a → nodesErr a ≠ 0 → nodesErrs l = nodesErr a
 | x :: l, 0, a, _, hk, ha => by
  simp only [List.getElem?_cons_zero, Option.some.injEq] at hk
  subst hk
  rw [nodesErrs, if_pos ha]
 | x :: l, k + 1, a, h, hk, ha => by
  rw [List.take_succ_cons, nodesErrs] at h
  rw [nodesErrs]
  by_cases hx : nodesErr x = 0
  ·rw [if_neg (by simp [hx])] at h ⊢
   exact nodesErrs_hit h (by simpa using hk) ha
  ·rw [if_pos hx] at h; exact absurd h hx
 | [], k, a, _, hk, _ => by simp at hk
theorem nodesErrs_next : ∀ {l : List Ex} {k : Nat} {a : Ex}, nodesErrs (l.take k) = 0 → l[k]? = some a → nodesErr a = 0 → nodesErrs (l.take (k + 1)) = 0
 | x :: l, 0, a, _, hk, ha => by
  simp only [List.getElem?_cons_zero, Option.some.injEq] at hk
  subst hk
  simp [nodesErrs, ha]
 | x :: l, k + 1, a, h, hk, ha => by
  rw [List.take_succ_cons, nodesErrs] at h ⊢
  by_cases hx : nodesErr x = 0
  ·rw [if_neg (by simp [hx])] at h ⊢
   exact nodesErrs_next h (by simpa using hk) ha
  ·rw [if_pos hx] at h; exact absurd h hx
 | [], k, a, _, hk, _ => by simp at hk
def NodesAt (m : Nat) : Prop := ∀ e : Ex, SizeOf.sizeOf e ≤ m → ∀ (w : World), LevelsT w → WordsT w → SeesEx w e →
  Calls Tryz.prog 112 #[exV e] w (NodeSays (nodesErr e) w)
set_option maxHeartbeats 1000000 in
set_option maxRecDepth 100000 in
theorem nodes_step (m : Nat) (ih : NodesAt m) (op name : ByteArray) (v : Val) (A : Option Addr) (c : Nat) (args : List Ex) (pos : Int) (hm : SizeOf.sizeOf (Ex.mk op name v A c args pos) ≤ m + 1)
  (w : World) (hT : LevelsT w) (hW : WordsT w) (he : SeesEx w (.mk op name v A c args pos)) :
  Calls Tryz.prog 112 #[exV (.mk op name v A c args pos)] w (NodeSays (nodesErr (.mk op name v A c args pos)) w) := by
  have IH := Lib.hid ih
  clear ih
  have HM := Lib.hid (fun a (ha : a ∈ args) => show SizeOf.sizeOf a ≤ m by have := ex_lt (e := .mk op name v A c args pos) ha; omega)
  have hb0 : Below w.heap.size w (w.alloc (.cells #[.string op, .string name, .int .i64 v.type, .int .i64 v.n, .string v.s, .slice A args.length c, .int .i64 pos] 26)) := (Below.refl _ _).alloc (Nat.le_refl _) _
  have HE := Lib.hid (he.keep hb0)
  have HT := Lib.hid (hT.keep hb0)
  have HW := Lib.hid (hW.keep hb0)
  have HB := Lib.hid hb0
  have hcap : args.length ≤ c := he.parts.1.2.1
  have hmax : c ≤ maxLen := he.parts.1.2.2.1
  have HN0 : Calls Tryz.prog 171 #[.agg #[.string op, .string name, .int .i64 v.type, .int .i64 v.n, .string v.s, .slice A args.length c, .int .i64 pos]] (w.alloc (.cells #[.string op, .string name, .int .i64 v.type, .int .i64 v.n, .string v.s, .slice A args.length c, .int .i64 pos] 26)) (NodeSays (nodeErrOf op name v args.length) (w.alloc (.cells #[.string op, .string name, .int .i64 v.type, .int .i64 v.n, .string v.s, .slice A args.length c, .int .i64 pos] 26))) := node_any (.mk op name v A c args pos) _ HT.out HW.out (Nat.le_trans hcap hmax) he.parts.2.2.1
  have HN := Lib.hid HN0
  unfold maxLen at hmax
  have HS := Lib.hid (show nodesErr (.mk op name v A c args pos) = if nodeErrOf op name v args.length ≠ 0 then nodeErrOf op name v args.length else nodesErrs args from nodesErr_eq _)
  have HC := Lib.hid (fun (w1 : World) (hb : Below (w.alloc (.cells #[.string op, .string name, .int .i64 v.type, .int .i64 v.n, .string v.s, .slice A args.length c, .int .i64 pos] 26)).heap.size (w.alloc (.cells #[.string op, .string name, .int .i64 v.type, .int .i64 v.n, .string v.s, .slice A args.length c, .int .i64 pos] 26)) w1) => (hb.cell (p := ⟨w.heap.size, 5, none⟩) (by simp)).trans (show _ = some (.slice A args.length c) by simp))
  show Calls Tryz.prog 112 #[.agg #[.string op, .string name, .int .i64 v.type, .int .i64 v.n, .string v.s, .slice A args.length c, .int .i64 pos]] w _
  clear HN0
  generalize hn : args.length = n at hcap HE HB HN HC HT HW HS ⊢
  have HLn := Lib.hid hn
  clear hm he hb0 hn hT hW
  generalize hke : nodeErrOf op name v n = ke at HN HS
  clear hke
  go_enter Tryz.func112, Tryz.ntmps112
  go_wp2_with fail
  generalize w.alloc (.cells #[.string op, .string name, .int .i64 v.type, .int .i64 v.n, .string v.s, .slice A n c, .int .i64 pos] 26) = w0 at HE HB HN HC HT HW ⊢
  refine (HN.out).mono ?_
  rintro e' w1 ⟨rfl, hb1⟩
  have HB1 := Lib.hid hb1
  have d5 := HC.out w1 hb1
  clear hb1
  by_cases hk : ke = 0
  ·subst hk
   rw [errV_zero]
   go_wp2_with fail
   go_loopw [6, 15] (fun _ i wr => ∃ k : Nat, k ≤ n ∧ i = .int .i64 k ∧ nodesErrs (args.take k) = 0 ∧ Below w0.heap.size w0 wr) (fun _ i _ => n - (intOf i).toNat)
   case atStart => exact ⟨0, by omega, rfl, rfl, HB1.out⟩
   case round =>
    obtain ⟨k, hk, rfl, hno, hb⟩ := hrel
    have HBR := Lib.hid hb
    have HNO := Lib.hid hno
    clear hno
    by_cases hlk : k < n
    ·obtain ⟨g, o, x, (rfl : A = _), hg, hx, hsx, c0, c1, c2, c3, c4, c5, c6⟩ := (HE.out.keep hb).at_ (k := k) (by show k < args.length; rw [HLn.out]; exact hlk)
     have HX := Lib.hid (show args[k]? = some x from hx)
     have hbx : Below wr.heap.size wr (wr.alloc (.cells #[.string x.op, .string x.name, .int .i64 x.val.type, .int .i64 x.val.n, .string x.val.s, .slice x.A x.args.length x.c, .int .i64 x.pos] 26)) := (Below.refl _ _).alloc (Nat.le_refl _) _
     have T := Lib.hid (IH.out x (HM.out x (List.mem_of_getElem? HX.out)) _ ((HT.out.keep hb).keep hbx) ((HW.out.keep hb).keep hbx) (hsx.keep hbx))
     have HBX := Lib.hid hbx
     unfold exV at T
     clear hb hx hsx hbx
     by_cases hxe : nodesErr x = 0
     ·have E := Lib.hid (nodesErrs_next HNO.out HX.out hxe)
      have HXE := Lib.hid hxe
      clear hxe
      go_wp2_with fail
      refine (T.out).mono ?_
      rintro e' w2 ⟨rfl, hb1⟩
      rw [HXE.out, errV_zero]
      have HB2 := Lib.hid (below_step (below_step HBR.out HBX.out) hb1)
      clear hb1
      go_wp2_with fail
      go_roundw
      case rel => exact ⟨k + 1, by omega, by go_num, E.out, HB2.out⟩
      case measure => simp [intOf]; omega
     ·have E := Lib.hid (nodesErrs_hit HNO.out HX.out hxe)
      have HXE := Lib.hid (errV_ne hxe)
      clear hxe
      go_wp2_with fail
      refine (T.out).mono ?_
      rintro e' w2 ⟨rfl, hb1⟩
      rw [HXE.out]
      have HB2 := Lib.hid (below_step (below_step HBR.out HBX.out) hb1)
      clear hb1
      go_wp2_with fail
      go_ret
      exact ⟨by rw [HS.out, if_neg (by simp), E.out, HXE.out]; rfl, below_step HB.out HB2.out⟩
    ·obtain rfl : n = k := by omega
     have htk : args.take n = args := List.take_of_length_le (by rw [HLn.out]; exact Nat.le_refl _)
     have E := Lib.hid (show nodesErrs args = 0 by have := HNO.out; rwa [htk] at this)
     clear hb htk
     go_wp2_with fail
     go_ret
     exact ⟨by rw [HS.out, if_neg (by simp), E.out]; rfl, below_step HB.out HBR.out⟩
  ·have HK := Lib.hid hk
   rw [errV_ne hk]
   clear hk
   go_wp2_with fail
   go_ret
   exact ⟨by rw [HS.out, if_pos HK.out, errV_ne HK.out]; rfl, below_step HB.out HB1.out⟩
theorem nodes_any : ∀ m : Nat, NodesAt m
 | 0 => fun e hm _ _ _ _ => by cases e; simp at hm
 | m + 1 => fun e hm w hT hW he => by
  obtain ⟨op, name, v, A, c, args, pos⟩ := e
  exact nodes_step m (nodes_any m) op name v A c args pos hm w hT hW he
def checkErr (e : Ex) : Int := if fullB e = true then 4 else nodesErr e
set_option maxHeartbeats 1000000 in
set_option maxRecDepth 100000 in
theorem check_any (e : Ex) (w : World) (hT : LevelsT w) (hW : WordsT w) (he : SeesEx w e) :
  Calls Tryz.prog 45 #[exV e] w (NodeSays (checkErr e) w) := by
 obtain ⟨op, name, v, A, c, args, pos⟩ := e
 have hb0 : Below w.heap.size w (w.alloc (.cells #[.string op, .string name, .int .i64 v.type, .int .i64 v.n, .string v.s, .slice A args.length c, .int .i64 pos] 26)) := (Below.refl _ _).alloc (Nat.le_refl _) _
 have HE := Lib.hid (he.keep hb0)
 have HT := Lib.hid (hT.keep hb0)
 have HW := Lib.hid (hW.keep hb0)
 have HB := Lib.hid hb0
 have T := Lib.hid (full_any _ _ HE.out)
 unfold exV at T
 clear he hb0 hT hW
 show Calls Tryz.prog 45 #[.agg #[.string op, .string name, .int .i64 v.type, .int .i64 v.n, .string v.s, .slice A args.length c, .int .i64 pos]] w _
 have C := Lib.hid (fun (w1 : World) (hb : Below (w.alloc (.cells #[.string op, .string name, .int .i64 v.type, .int .i64 v.n, .string v.s, .slice A args.length c, .int .i64 pos] 26)).heap.size (w.alloc (.cells #[.string op, .string name, .int .i64 v.type, .int .i64 v.n, .string v.s, .slice A args.length c, .int .i64 pos] 26)) w1) (j : Nat) => hb.cell (p := ⟨w.heap.size, j, none⟩) (by simp))
 have E := Lib.hid (show checkErr (.mk op name v A c args pos) = _ from rfl)
 generalize hf : fullB (.mk op name v A c args pos) = f at T
 have HF := Lib.hid hf
 clear hf
 cases f with
 | true =>
  go_enter Tryz.func45, Tryz.ntmps45
  go_wp2_with fail
  refine (T.out).mono ?_
  rintro e' w1 ⟨rfl, hb1⟩
  have HB1 := Lib.hid (below_step HB.out hb1)
  clear hb1
  go_wp2_with fail
  go_ret
  exact ⟨by unfold checkErr; rw [if_pos HF.out]; rfl, HB1.out⟩
 | false =>
  go_enter Tryz.func45, Tryz.ntmps45
  go_wp2_with fail
  refine (T.out).mono ?_
  rintro e' w1 ⟨rfl, hb1⟩
  have HB1 := Lib.hid (below_step HB.out hb1)
  have T2 := Lib.hid (nodes_any _ _ (Nat.le_refl _) w1 (HT.out.keep hb1) (HW.out.keep hb1) (HE.out.keep hb1))
  unfold exV at T2
  have d0 := (C.out w1 hb1 0).trans (show _ = some (.string op) by simp)
  have d1 := (C.out w1 hb1 1).trans (show _ = some (.string name) by simp)
  have d2 := (C.out w1 hb1 2).trans (show _ = some (.int .i64 v.type) by simp)
  have d3 := (C.out w1 hb1 3).trans (show _ = some (.int .i64 v.n) by simp)
  have d4 := (C.out w1 hb1 4).trans (show _ = some (.string v.s) by simp)
  have d5 := (C.out w1 hb1 5).trans (show _ = some (.slice A args.length c) by simp)
  have d6 := (C.out w1 hb1 6).trans (show _ = some (.int .i64 pos) by simp)
  clear hb1
  go_wp2_with fail
  refine (T2.out).mono ?_
  rintro e' w2 ⟨rfl, hb2⟩
  have HB2 := Lib.hid (below_step HB1.out hb2)
  clear hb2
  go_wp2_with fail
  go_ret
  exact ⟨by unfold checkErr; rw [if_neg (by rw [HF.out]; decide)]; rfl, HB2.out⟩
end Go.Proofs.YtpbbkpfaphjdoaaGreatDoor
namespace Go.Proofs.YtpbbkpfaphjdoaaGreatDoor
open Go.ChangeShapes Go.WideShapes Go.ChangeAt Go.RowKit
theorem str_is {s : ByteArray} {l : List UInt8} (h : s.data.toList = l) : (s.toList == l) = true := by rw [Lib.toList_data, h]; simp
theorem arity_le (s : ByteArray) : arityOf s ≤ 3 := by
 unfold arityOf signAr
 repeat' split
 all_goals omega
theorem nodeErr_len {op name : ByteArray} {v : Val} {n : Nat} (h : nodeErrOf op name v n = 0) : (n : Int) = arityOf op ∧ 0 ≤ arityOf op ∧ n ≤ 3 := by
 unfold nodeErrOf at h
 by_cases h1 : arityOf op < 0 ∨ isCol op ∧ treeName name = false
 ·rw [if_pos h1] at h; omega
 ·rw [if_neg h1] at h
  by_cases h2 : (n : Int) ≠ arityOf op ∨ ¬ isCol op ∧ name.data.toList ≠ [] ∨ ¬ isVal op ∧ v ≠ noVal
  ·rw [if_pos h2] at h; omega
  ·have h3 : (n : Int) = arityOf op := by
    by_cases h : (n : Int) = arityOf op
    ·exact h
    ·exact absurd (Or.inl h) h2
   have := arity_le op
   exact ⟨h3, by omega, by omega⟩
theorem nodesErr_parts {op name : ByteArray} {v : Val} {A : Option Addr} {c : Nat} {args : List Ex} {pos : Int} (h : nodesErr (.mk op name v A c args pos) = 0) :
  nodeErrOf op name v args.length = 0 ∧ nodesErrs args = 0 := by
 rw [nodesErr] at h
 by_cases h1 : nodeErrOf op name v args.length = 0
 ·rw [if_neg (by simp [h1])] at h; exact ⟨h1, h⟩
 ·rw [if_pos h1] at h; exact absurd h h1
theorem nodesErrs_all : ∀ {l : List Ex}, nodesErrs l = 0 → ∀ a ∈ l, nodesErr a = 0
 | [], _, a, ha => by cases ha
 | x :: l, h, a, ha => by
  rw [nodesErrs] at h
  by_cases hx : nodesErr x = 0
  ·rw [if_neg (by simp [hx])] at h
   rcases List.mem_cons.1 ha with rfl | ha
   ·exact hx
   ·exact nodesErrs_all h a ha
  ·rw [if_pos hx] at h; exact absurd h hx
mutual
def exN : Ex → Nat
 | .mk _ _ _ _ _ l _ => exNs l + 1
def exNs : List Ex → Nat
 | [] => 0
 | a :: l => exN a + exNs l
end
theorem exN_eq (e : Ex) : exN e = exNs e.args + 1 := by cases e; rw [exN]; rfl
theorem exNs_mem : ∀ {l : List Ex} {a : Ex}, a ∈ l → exN a ≤ exNs l
 | [], a, h => by cases h
 | x :: l, a, h => by
  rw [exNs]
  rcases List.mem_cons.1 h with rfl | h
  ·omega
  ·have := exNs_mem h; omega
theorem wrap64_ok {n : Int} (h : 0 ≤ n) (h2 : n < 9223372036854775808) : wrap64 n = n := by
 unfold wrap64; omega
theorem exSizes_ok : ∀ {l : List Ex} {n : Nat}, (∀ a ∈ l, exSize a = exN a) → n + exNs l < 9223372036854775808 → exSizes n l = ((n + exNs l : Nat) : Int)
 | [], n, _, _ => by rw [exSizes, exNs]; simp
 | a :: l, n, h, hb => by
  rw [exNs] at hb
  rw [exSizes, exNs, h a List.mem_cons_self, wrap64_ok (by omega) (by omega)]
  have := exSizes_ok (l := l) (n := n + exN a) (fun x hx => h x (List.mem_cons_of_mem _ hx)) (by omega)
  rw [show (n : Int) + (exN a : Int) = ((n + exN a : Nat) : Int) by omega, this]
  congr 1; omega
theorem exNs_bound : ∀ {l : List Ex} {B : Nat}, (∀ a ∈ l, 2 * exN a + 1 ≤ B) → 2 * exNs l + l.length ≤ l.length * B
 | [], B, _ => by simp [exNs]
 | a :: l, B, h => by
  rw [exNs]
  have h1 := h a List.mem_cons_self
  have h2 := exNs_bound (l := l) fun x hx => h x (List.mem_cons_of_mem _ hx)
  rw [List.length_cons, Nat.add_mul]; omega
theorem pow3_le {m : Nat} (h : m ≤ 30) : 3 ^ m ≤ 205891132094649 := by
 have := Nat.pow_le_pow_right (n := 3) (by omega) h
 simpa using this
theorem size_ok : ∀ (m : Nat), m ≤ 30 → ∀ e : Ex, exBelow m e = true → nodesErr e = 0 → exSize e = exN e ∧ 2 * exN e + 1 ≤ 3 ^ m
 | 0, _, e, h, _ => by rw [exBelow] at h; cases h
 | m + 1, hm, e, h, hn => by
  rw [exBelow_all] at h
  obtain ⟨op, name, v, A, c, args, pos⟩ := e
  obtain ⟨h1, h2⟩ := nodesErr_parts hn
  have h3 := (nodeErr_len h1).2.2
  have ih : ∀ a ∈ args, exSize a = exN a ∧ 2 * exN a + 1 ≤ 3 ^ m := fun a ha => size_ok m (by omega) a (List.all_eq_true.1 h a ha) (nodesErrs_all h2 a ha)
  have hb := exNs_bound fun a ha => (ih a ha).2
  have hp := pow3_le (m := m) (by omega)
  have hpos : 1 ≤ 3 ^ m := Nat.one_le_pow _ _ (by omega)
  have hl : args.length * 3 ^ m ≤ args.length + 3 * (3 ^ m - 1) := by
   have : args.length * (3 ^ m - 1) ≤ 3 * (3 ^ m - 1) := Nat.mul_le_mul_right _ h3
   have e : args.length * 3 ^ m = args.length * (3 ^ m - 1) + args.length := by
    rw [← Nat.mul_succ]; congr 1; omega
   omega
  have hN : exN (.mk op name v A c args pos) = exNs args + 1 := by rw [exN]
  refine ⟨?_, by rw [hN, Nat.pow_succ]; omega⟩
  rw [exSize, show (1 : Int) = ((1 : Nat) : Int) from rfl, exSizes_ok (fun a ha => (ih a ha).1) (by omega), hN]
  congr 1; omega
theorem checkErr_ok {e : Ex} (h : checkErr e = 0) : exSize e ≤ 200 ∧ exBelow 30 e = true ∧ nodesErr e = 0 := by
 unfold checkErr fullB at h
 by_cases h1 : (decide (200 < exSize e) || !exBelow 30 e) = true
 ·rw [if_pos h1] at h; omega
 ·rw [if_neg h1] at h
  simp at h1
  exact ⟨h1.1, h1.2, h⟩
end Go.Proofs.YtpbbkpfaphjdoaaGreatDoor
namespace Go.Proofs.YtpbbkpfaphjdoaaGreatDoor
open Go.ChangeShapes Go.WideShapes Go.ChangeAt Go.RowKit
mutual
def strip : Ex → Ex
 | .mk op name v _ _ args pos => .mk op name v none 0 (strips args) pos
def strips : List Ex → List Ex
 | [] => []
 | a :: l => strip a :: strips l
end
theorem strip_mk (op name : ByteArray) (v : Val) (A : Option Addr) (c : Nat) (args : List Ex) (pos : Int) : strip (.mk op name v A c args pos) = .mk op name v none 0 (strips args) pos := by rw [strip]
theorem strips_map : ∀ l : List Ex, strips l = l.map strip
 | [] => by rw [strips]; rfl
 | a :: l => by rw [strips, strips_map l]; rfl
theorem strips_len (l : List Ex) : (strips l).length = l.length := by rw [strips_map, List.length_map]
theorem strip_op (e : Ex) : (strip e).op = e.op := by cases e; rw [strip]; rfl
theorem strip_val (e : Ex) : (strip e).val = e.val := by cases e; rw [strip]; rfl
theorem strip_args (e : Ex) : (strip e).args = strips e.args := by cases e; rw [strip]; rfl
mutual
theorem strip_nodes : ∀ e : Ex, nodesErr (strip e) = nodesErr e
 | .mk op name v A c args pos => by rw [strip, nodesErr, nodesErr, strips_len, strip_nodess args]
theorem strip_nodess : ∀ l : List Ex, nodesErrs (strips l) = nodesErrs l
 | [] => by rw [strips]
 | a :: l => by rw [strips, nodesErrs, nodesErrs, strip_nodes a, strip_nodess l]
end
end Go.Proofs.YtpbbkpfaphjdoaaGreatDoor
