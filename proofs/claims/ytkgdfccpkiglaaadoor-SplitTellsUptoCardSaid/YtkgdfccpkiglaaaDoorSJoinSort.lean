/- The call of the sort within a join: what it leaves. -/
import Derived.Test.YtkgdfccpkiglaaaDoorSJoinSt
namespace Go.Proofs.YtkgdfccpkiglaaaDoor
open Go.ChangeShapes Go.WideShapes Go.ChangeAt Go.RowKit
namespace SortLaw
def noE : OutE := ⟨none, 0, 0, 0, 0⟩
def repOf (cl : List OutH) (x : OutP × Nat) : OutE := ((cl[x.2]?).map OutH.e).getD noE
theorem rep_at {cl : List OutH} {gs : List OutP} (hg : cl.map (·.o) = gs) {x : OutP × Nat} (hx : x ∈ gs.zipIdx) : ∃ h, cl[x.2]? = some h ∧ h.o = x.1 ∧ repOf cl x = h.e := by
 have h1 := zip_mem hx
 rw [← hg, List.getElem?_map] at h1
 obtain ⟨h, h2, h3⟩ := Option.map_eq_some_iff.1 h1
 exact ⟨h, h2, h3, by unfold repOf; rw [h2]; rfl⟩
theorem rep_cells {cl : List OutH} {gs : List OutP} (hg : cl.map (·.o) = gs) : (gs.zipIdx).flatMap (fun x => oC (repOf cl x)) = outCells cl := by
 unfold outCells
 rw [List.flatMap_def, List.flatMap_def]
 congr 1
 apply List.ext_getElem?
 intro i
 rw [List.getElem?_map, List.getElem?_map, List.getElem?_zipIdx, ← hg, List.getElem?_map]
 cases h : cl[i]? with
 | none => rfl
 | some a => simp [repOf, h]
def SortedSt (B : Nat) (w0 wr : World) (v4 v6 : Value) (bd : List OutH) (gs : List OutP) (G : Nat) (ts : Nat → Int) (n : Nat) (w5 : World) : Prop :=
 ∃ (E : List (OutP × Nat)) (hs : List OutH), E.Perm gs.zipIdx ∧ E.Pairwise (Ahead (ltO G) (Fit G ts)) ∧ hs.map (·.o) = E.map (·.1) ∧ hs.length = n ∧ JSt B w0 w5 v4 v6 hs bd ∧ wr.heap.size ≤ w5.heap.size
theorem join_sort {B : Nat} {w0 wr : World} {VA : Option Addr} {VC n : Nat} {v6 : Value} {cl bd : List OutH} {gs : List OutP} {G gb : Nat} {ts : Nat → Int}
  (hJ : JSt B w0 wr (.slice VA n VC) v6 cl bd) (hn : cl.length = n) (hg : cl.map (·.o) = gs) (hc : wr.cell? ⟨gb, 0, none⟩ = some (.int .i64 (G : Nat))) (hgb : gb < B) (hBw : B ≤ wr.heap.size)
  (hf : ∀ y ∈ gs, Fit G ts y) (hmax : n ≤ 1099511627776) :
  Calls Tryd.prog 21 #[.slice VA n VC, .func (.func 22) #[] #[.pointer (some ⟨gb, 0, none⟩)]] wr
   fun e w5 => e = .returned (.tuple #[]) ∧ SortedSt B w0 wr (.slice VA n VC) v6 bd gs G ts n w5 := by
 have hown := hJ.own4
 rw [hn] at hown
 by_cases h0 : n = 0
 ·subst h0
  obtain rfl : cl = [] := List.eq_nil_of_length_eq_zero hn
  refine (sortFn_none VA VC _ wr).mono ?_
  rintro e w5 ⟨rfl, rfl⟩
  have : gs = [] := by rw [← hg]; rfl
  subst this
  exact ⟨rfl, [], [], List.Perm.refl _, List.Pairwise.nil, rfl, rfl, hJ, Nat.le_refl _⟩
 rcases hown.2 with ⟨e, h1⟩ | ⟨g, cap, cur, e, hb, hh, -⟩
 ·exact absurd h1 h0
 injection e with e1 _ e3
 subst e1 e3
 obtain ⟨post, hrow⟩ := own_block hown
 have hgr : g < wr.heap.size := (Array.getElem?_eq_some_iff.1 hh).1
 obtain ⟨S, hS⟩ : ∃ S : SEnv (OutP × Nat), S = ⟨repOf cl, wr, g, post, (·.2), Ahead (ltO G) (Fit G ts), fun x => x ∈ gs.zipIdx⟩ := ⟨_, rfl⟩
 have hcells : oCs S gs.zipIdx = outCells cl := by rw [hS]; exact rep_cells hg
 have hb' : S.b = g := by rw [hS]
 have hlen : gs.zipIdx.length = n := by rw [List.length_zipIdx, ← hg, List.length_map, hn]
 have hat : SAt S wr gs.zipIdx := by
  refine ⟨?_, ?_⟩
  ·rw [hcells, hS]; exact hrow
  ·rw [hS]; exact Only.refl _ _
 have hcmp : SCmpOk S (.pointer (some ⟨gb, 0, none⟩)) := by
  intro x y w hx hy ht ho
  have hx' : x ∈ gs.zipIdx := by rw [hS] at hx; exact hx
  have hy' : y ∈ gs.zipIdx := by rw [hS] at hy; exact hy
  have ho' : Only (fun k => k = g) wr w := by rw [hS] at ho; exact ho
  have ht' : x.2 < y.2 := by rw [hS] at ht; exact ht
  obtain ⟨a, a1, a2, a3⟩ := rep_at hg hx'
  obtain ⟨b, b1, b2, b3⟩ := rep_at hg hy'
  have fa : Fit G ts x.1 := hf _ (List.mem_of_getElem? (zip_mem hx'))
  have fb : Fit G ts y.1 := hf _ (List.mem_of_getElem? (zip_mem hy'))
  have ra := hJ.rows a (List.mem_of_getElem? a1)
  have rb := hJ.rows b (List.mem_of_getElem? b1)
  have ra' : S.rep x = a.e := by rw [hS]; exact a3
  have rb' : S.rep y = b.e := by rw [hS]; exact b3
  have off : ∀ z : OutH, Off (.slice (some ⟨g, 0, none⟩) n VC) z → ∀ ad, z.p = some ad → ¬ ad.block = g := fun z hz ad e e2 => hz ad e (by rw [e2]; rfl)
  rw [ra', rb']
  refine (cmpOut_any b a G gb w ((ho'.cell (p := ⟨gb, 0, none⟩) (by show gb < _; omega) (by show ¬ gb = g; omega)).trans hc) (by have := ho'.size; omega) (only_out ho' rb.1 (off b rb.2.1)) (only_out ho' ra.1 (off a ra.2.1))
   (by rw [b2]; exact fb.1) (by rw [a2]; exact fa.1)).mono ?_
  rintro e w' ⟨rfl, hbw⟩
  refine ⟨_, rfl, hbw, ?_⟩
  rw [a2, b2]
  have hA : S.A = Ahead (ltO G) (Fit G ts) := by rw [hS]
  rw [hA]
  have key := ahead_of (lt := ltO G) (x := x) (y := y) fa fb ht'
  cases hd : decide (ordO G y.1 x.1 < 0) with
  | true => exact Or.inl ⟨rfl, key.1 hd⟩
  | false => exact Or.inr ⟨rfl, key.2 hd⟩
 have htr : ∀ x y z, S.A x y → S.A y z → S.A x z := by rw [hS]; exact ahead_trans (weakO G ts)
 have T := sortFn_any S (.pointer (some ⟨gb, 0, none⟩)) hcmp htr gs.zipIdx n VC wr hlen hmax (fun x hx => by rw [hS]; exact hx) (by rw [hS]; exact zip_tag gs) hat
 rw [hb'] at T
 refine T.mono ?_
 rintro e w5 ⟨rfl, E, hp, hs, h5⟩
 have ho5 : Only (fun k => k = g) wr w5 := by have := h5.only; rw [hS] at this; exact this
 have hp' : ∀ x ∈ E, x ∈ gs.zipIdx := fun x hx => hp.mem_iff.1 hx
 have hA : S.A = Ahead (ltO G) (Fit G ts) := by rw [hS]
 obtain ⟨hs0, h1, h2, h3⟩ : ∃ hs0 : List OutH, hs0.map (·.o) = E.map (·.1) ∧ outCells hs0 = oCs S E ∧ ∀ h ∈ hs0, h ∈ cl := by
  rw [hS]
  clear hs h5 hp T hcmp htr hat hlen hcells hA hb' hrow
  induction E with
  | nil => exact ⟨[], rfl, rfl, by simp⟩
  | cons x E ih =>
   obtain ⟨l, i1, i2, i3⟩ := ih fun z hz => hp' z (List.mem_cons_of_mem _ hz)
   obtain ⟨h, e1, e2, e3⟩ := rep_at hg (hp' x List.mem_cons_self)
   refine ⟨h :: l, by rw [List.map_cons, List.map_cons, i1, e2], ?_, ?_⟩
   ·unfold outCells oCs at *
    rw [List.flatMap_cons, List.flatMap_cons, i2]
    simp only
    rw [e3]
   ·intro z hz
    rcases List.mem_cons.1 hz with rfl | hz
    ·exact List.mem_of_getElem? e1
    ·exact i3 z hz
 have hEl : E.length = n := hp.length_eq.trans hlen
 have hsl : hs0.length = n := by have := congrArg List.length h1; rw [List.length_map, List.length_map] at this; omega
 refine ⟨rfl, E, hs0, hp, hA ▸ hs, h1, hsl, ⟨?_, ?_, hJ.ne, ?_, ?_, ?_⟩, ho5.size⟩
 ·rw [hsl, h2]
  have hw : wr.ownsRow B 52 3 (.slice (some ⟨S.b, 0, none⟩) n VC) n (oCs S gs.zipIdx) := by rw [hb', hcells]; exact hown
  have := own_sorted hw ⟨(outCells cl ++ post).toArray, by rw [hb']; exact hrow, by rw [hcells, hS]⟩ h5 (hEl.trans hlen.symm)
  rw [hb'] at this
  exact this
 ·refine ho5.own hJ.own6 fun k hk e => ?_
  subst e
  rcases hJ.ne with h | h
  ·cases h
  ·exact h hk.symm
 ·intro h hh
  obtain ⟨r1, r2, r3⟩ := hJ.rows h (h3 h hh)
  exact ⟨only_out ho5 r1 (fun ad e e2 => r2 ad e (by rw [e2]; rfl)), r2, r3⟩
 ·intro h hh
  exact ⟨sees_none (hJ.empty h hh).1 (hJ.empty h hh).2, (hJ.empty h hh).2⟩
 ·exact hJ.below.trans (ho5.below hBw fun k hk => by omega)
end SortLaw
end Go.Proofs.YtkgdfccpkiglaaaDoor
