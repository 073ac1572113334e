/- Of the law FoldSame, in plain words: what a folded expression keeps of the one that it came from. -/
import Derived.Test.YtpbbkpfaphjdoaaDoorFoldLaw
import Derived.Test.YtpbbkpfaphjdoaaDoorEval
namespace Go.Proofs.YtpbbkpfaphjdoaaDoor

theorem evalR_ok {cols : List Col} {r : List Val} {e : Ex} (h : (typeOf cols e).h = 0) : evalR cols r e = if rowErr cols r ≠ 0 then ⟨rowErr cols r, noVal⟩ else evE cols r e := by
  unfold evalR
  rw [if_neg (fun h' => h' h)]
/-- One that lies elsewhere than the folded one, and is the same. -/
structure Short (cols : List Col) (e x : Ex) : Prop where
  chk : checkErr x = 0
  ty : (typeOf cols x).h = 0
  size : exSize x ≤ exSize e
  again : strip (foldE x) = strip x
  names : ∀ n, n ∈ exNames x → n ∈ exNames e
  ev : ∀ r : List Val, (∀ v ∈ r, v.wf) → evalR cols r x = evalR cols r e
theorem short_of {cols : List Col} {e x : Ex} (h : (typeOf cols e).h = 0) (hw : WfE e) (hs : strip x = strip (foldE e)) : Short cols e x := by
  obtain ⟨h1, h2, h3, h4, h5⟩ := typeOf_ok h
  obtain ⟨s1, s2, s3⟩ := checkErr_ok h3
  have G : Good cols e := ⟨h1, h2, hw⟩
  have g := fold_good _ e (Nat.le_refl _) G
  have n1 : nodesErr x = 0 := by rw [← strip_nodes, hs, strip_nodes]; exact g.1.nodes
  have b1 : exBelow 30 x = true := by rw [← strip_below, hs, strip_below]; exact fold_below _ e G s2
  have l1 : exN x ≤ exN e := by rw [← strip_n x, hs, strip_n]; exact fold_size _ e (Nat.le_refl _) G
  have z1 := (size_ok 30 (Nat.le_refl _) e s2 s3).1
  have z2 := (size_ok 30 (Nat.le_refl _) x b1 n1).1
  have c1 : checkErr x = 0 := checkErr_mk (by omega) b1 n1
  have o1 : ofE cols x = ofE cols (foldE e) := by rw [← strip_of, hs, strip_of]
  have t1 : (typeOf cols x).h = 0 := by
    unfold typeOf
    rw [if_neg (by simp [c1]), if_neg (by simp [h4]), o1]
    exact g.1.ty
  refine ⟨c1, t1, by omega, ?_, ?_, ?_⟩
  · rw [foldE_strip _ x (Nat.le_refl _), hs, ← foldE_strip _ (foldE e) (Nat.le_refl _)]
    exact folded_stays _ _ (Nat.le_refl _) (fold_folded _ e (Nat.le_refl _) G)
  · intro n hn
    rw [← strip_names, hs, strip_names] at hn
    exact fold_names _ e (Nat.le_refl _) G hn
  · intro r hr
    rw [evalR_ok t1, evalR_ok h]
    by_cases hk : rowErr cols r = 0
    · rw [← strip_ev cols r x, hs, strip_ev, fold_ev (rowErr_ok hk hr).2 _ e (Nat.le_refl _) G]
    · rw [if_pos hk, if_pos hk]

/-! ### the law's own fact: two and three are five -/
def colsF : List Col := [⟨⟨#[120]⟩, 1⟩]
def valF (n : Int) : Ex := .mk ⟨#[118, 97, 108]⟩ ⟨#[]⟩ ⟨1, n, ⟨#[]⟩⟩ none 0 [] 0
def sumF (A : Option Addr) (c : Nat) : Ex := .mk ⟨#[43]⟩ ⟨#[]⟩ ⟨0, 0, ⟨#[]⟩⟩ A c [valF 2, valF 3] 0
theorem sumF_type (A : Option Addr) (c : Nat) : (typeOf colsF (sumF A c)).h = 0 := by kernel_rfl
theorem sumF_fold (A : Option Addr) (c : Nat) : strip (foldE (sumF A c)) = exVal ⟨1, 5, ⟨#[]⟩⟩ 0 := by kernel_rfl
theorem fact_is {A : Option Addr} {c : Nat} {x : Ex} (h : strip x = strip (foldE (sumF A c))) : x.op = ⟨#[118, 97, 108]⟩ ∧ x.val.n = 5 := by
  rw [sumF_fold] at h
  exact ⟨by rw [← strip_op, h]; rfl, by rw [← strip_val, h]; rfl⟩
end Go.Proofs.YtpbbkpfaphjdoaaDoor
