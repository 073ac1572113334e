/- What verify says of code: plain. -/
import Derived.Test.YteoheaahlokdiaaDoorVeCode
import Derived.Test.YteoheaahlokdiaaDoorRule
import Derived.Test.YteoheaahlokdiaaDoorSchema
namespace Go.Proofs.YteoheaahlokdiaaDoor
open Go.RowKit

def opErr (k : Int) : Int := if 2 ≤ k ∧ k < 16 then 0 else 1
def opNm (k : Int) : ByteArray := if opErr k = 0 then opsB.getD k.toNat ⟨#[]⟩ else ⟨#[]⟩
/-- What is wrong with the number, or the value, of the instruction at i of len. -/
def argErr (len i nc : Nat) (x : Ins) : Int :=
  if x.what = 1 then vcheck x.val else if x.what = 2 then (if 0 ≤ x.arg ∧ x.arg < nc then 0 else 1) else if x.what = 3 then opErr x.arg
  else if x.what = 4 ∨ x.what = 5 then (if 0 ≤ x.arg ∧ x.arg < (len : Int) - i then 0 else 1) else if x.what = 6 ∨ x.what = 7 then 0 else 1
def need (x : Ins) : Nat := if x.what = 3 then (arityOf (opNm x.arg)).toNat else if x.what = 5 ∨ x.what = 6 ∨ x.what = 7 then 1 else 0
/-- The fault, and what is laid on the stack, of what was taken off. -/
def putTy (cols : List Col) (x : Ins) (off : List Int) : Int × List Int :=
  if x.what = 1 then (0, [x.val.type]) else if x.what = 2 then (0, [(cols.getD x.arg.toNat ⟨⟨#[]⟩, 0⟩).type])
  else if x.what = 3 then (if ruleErr (opNm x.arg) off ≠ 0 then (8, []) else (0, [ruleTy (opNm x.arg) off]))
  else if x.what = 5 then (if off.headD 0 ≠ 2 then (8, []) else (0, [])) else if x.what = 6 then (0, [off.headD 0, off.headD 0]) else (0, [])
def actP (cols : List Col) (x : Ins) (l : List Int) : Int × List Int :=
  if l.length < need x then (6, l) else
    if (putTy cols x (l.drop (l.length - need x))).1 ≠ 0 then ((putTy cols x (l.drop (l.length - need x))).1, l) else
      if 64 < (l.take (l.length - need x) ++ (putTy cols x (l.drop (l.length - need x))).2).length then (4, l)
      else (0, l.take (l.length - need x) ++ (putTy cols x (l.drop (l.length - need x))).2)
abbrev Sts := List (Option (List Int))
def reachP (st : Sts) (i : Nat) (l : List Int) : Int × Sts := match st.getD i none with
  | none => (0, st.set i (some l))
  | some m => (if m = l then 0 else 3, st)
theorem reachP_len (st : Sts) (i : Nat) (l : List Int) : (reachP st i l).2.length = st.length := by
  unfold reachP; split
  · exact List.length_set
  · rfl
/-- A step: the fault, the states, how many at most. -/
def stepP (cols : List Col) (len i : Nat) (x : Ins) (st : Sts) (most : Nat) : Int × Sts × Nat := match st.getD i none with
  | none => (5, st, most)
  | some l =>
    if argErr len i cols.length x ≠ 0 then (argErr len i cols.length x, st, most) else
    if (actP cols x l).1 ≠ 0 then ((actP cols x l).1, st, most) else
    if x.what = 4 then ((reachP st (i + 1 + x.arg.toNat) (actP cols x l).2).1, (reachP st (i + 1 + x.arg.toNat) (actP cols x l).2).2, max most (actP cols x l).2.length) else
    if x.what = 5 then
      (if (reachP st (i + 1 + x.arg.toNat) (actP cols x l).2).1 ≠ 0 then ((reachP st (i + 1 + x.arg.toNat) (actP cols x l).2).1, (reachP st (i + 1 + x.arg.toNat) (actP cols x l).2).2, max most (actP cols x l).2.length) else
        ((reachP (reachP st (i + 1 + x.arg.toNat) (actP cols x l).2).2 (i + 1) (actP cols x l).2).1, (reachP (reachP st (i + 1 + x.arg.toNat) (actP cols x l).2).2 (i + 1) (actP cols x l).2).2, max most (actP cols x l).2.length))
    else ((reachP st (i + 1) (actP cols x l).2).1, (reachP st (i + 1) (actP cols x l).2).2, max most (actP cols x l).2.length)
/-- All steps from i on: where, the fault, the states, how many at most. -/
def runP (cols : List Col) (len : Nat) : Nat → List Ins → Sts → Nat → Nat × Int × Sts × Nat
  | i, [], st, most => (i, 0, st, most)
  | i, x :: l, st, most => if (stepP cols len i x st most).1 ≠ 0 then (i, (stepP cols len i x st most).1, (stepP cols len i x st most).2) else runP cols len (i + 1) l (stepP cols len i x st most).2.1 (stepP cols len i x st most).2.2
def startP (len : Nat) : Sts := some [] :: List.replicate len none
theorem startP_len (len : Nat) : (startP len).length = len + 1 := by simp [startP]
def endP (len : Nat) (st : Sts) : List Int := (st.getD len none).getD []
/-- Of code: where, the fault; the type, how many at most. -/
structure Ver where
  place : Nat
  err : Int
  ty : Int
  most : Nat
def verP (l : List Ins) (cols : List Col) : Ver :=
  if 1200 < l.length then ⟨0, 4, 0, 0⟩ else if schemaErr cols ≠ 0 then ⟨0, schemaErr cols, 0, 0⟩ else
  if (runP cols l.length 0 l (startP l.length) 0).2.1 ≠ 0 then ⟨(runP cols l.length 0 l (startP l.length) 0).1, (runP cols l.length 0 l (startP l.length) 0).2.1, 0, 0⟩ else
  if (endP l.length (runP cols l.length 0 l (startP l.length) 0).2.2.1).length ≠ 1 then ⟨l.length, 3, 0, 0⟩ else
  ⟨0, 0, (endP l.length (runP cols l.length 0 l (startP l.length) 0).2.2.1).headD 0, (runP cols l.length 0 l (startP l.length) 0).2.2.2⟩
end Go.Proofs.YteoheaahlokdiaaDoor
