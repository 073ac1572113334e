/- The library's errors of numbers, tables and the longest needle, as a row that lists them gives them; a world of a witness. errors.As at a *api.Errno, by its contracts: of nil: false; of an Errno: true, and the target holds it. Turned from the guide's worked toy. plain.Told and sluicesame.Error over it. plain.Told and sluicesame.Error, walked: an Errno that is no OK is told; nil is OK. THE FRAME ROUND A LAW: from 'the call returns true and what was there stands' to the row's post, whatever the arguments' types. What the row's list gives where it lists errors.errorType alone: the variable's cell; and a world that meets it. Turned from the guide's worked toy. An argument that is a list of columns: what a walk sees. -/
import Derived.Test.YtpbbkpfaphjdoaaGreatDoorSLexNum
import Derived.Test.YtpbbkpfaphjdoaaGreatDoorSArity
import Derived.Stop.LaidErr
import Derived.Lib.LaidTab
import Derived.LaidLaws
import Derived.LaidMore
import Derived.LaidHandle
import Derived.Lay
import Derived.Test.YtpbbkpfaphjdoaaGreatDoorSErr
import Derived.LaidEql
import Derived.Stop.Asserts
import Derived.RowKitTokens
import Derived.Test.YtpbbkpfaphjdoaaGreatDoorCards
import Derived.Test.YtpbbkpfaphjdoaaGreatDoorTie
import Derived.ChangeVars
import Derived.Stop.Joined
import Derived.SevenTiedAt
import Derived.Test.YtpbbkpfaphjdoaaGreatDoorSSchema
namespace Go.Proofs.YtpbbkpfaphjdoaaGreatDoor
open Go.ChangeShapes Go.WideShapes Go.ChangeAt Go.RowKit
theorem star_es : "*" ++ "errors.errorString" = "*errors.errorString" := by decide
theorem row_es (u : TypeId) (h : Tryz.prog.typeName? 3 u = some "*errors.errorString") : u = 298 :=
 typeName_ptr_named (nm := "errors.errorString") (by rw [star_es]; kernel_rfl) (by kernel_rfl) (by decide) u (by rw [star_es]; exact h)
theorem numT_of {r : List (String × DataW Unit)} {W : World} (h : laidMet Tryz.prog (("strconv.ErrRange", Rows.laid_strconv_ErrRange) :: ("strconv.ErrSyntax", Rows.laid_strconv_ErrSyntax) :: r) W) : NumT W := by
 obtain ⟨a0, s0, hv0, -, -, -⟩ := laid_sentinel h (show Tryz.prog.globalNamed "strconv.ErrRange" = some 8 by kernel_rfl) (show (Tryz.prog.globals[8]?).map (·.type) = some 38 by kernel_rfl) Tryz.underlying38 row_es Tryz.underlying298 Tryz.underlying300 rfl rfl Tryz.underlying9 (by kernel_rfl) (by kernel_rfl)
 obtain ⟨a1, s1, hv1, -, -, -⟩ := laid_sentinel h.tail (show Tryz.prog.globalNamed "strconv.ErrSyntax" = some 7 by kernel_rfl) (show (Tryz.prog.globals[7]?).map (·.type) = some 38 by kernel_rfl) Tryz.underlying38 row_es Tryz.underlying298 Tryz.underlying300 rfl rfl Tryz.underlying9 (by kernel_rfl) (by kernel_rfl)
 have c0 : W.cell? ⟨8, 0, none⟩ = some (.iface 298 (.pointer (some a0))) := by
  have h0 := World.var?_cell (show Tryz.prog.globalNamed "strconv.ErrRange" = some 8 by kernel_rfl) hv0 0; simpa using h0
 have c1 : W.cell? ⟨7, 0, none⟩ = some (.iface 298 (.pointer (some a1))) := by
  have h0 := World.var?_cell (show Tryz.prog.globalNamed "strconv.ErrSyntax" = some 7 by kernel_rfl) hv1 0; simpa using h0
 exact ⟨⟨_, _, c0, World.block_lt_of_cell? W _ c0⟩, ⟨_, _, c1, World.block_lt_of_cell? W _ c1⟩⟩
theorem laidMet_over {P : Program} {w0 w' : World} {laid : List (String × DataW Unit)} (hh : w'.heap = (w0.layVars P laid).heap) (hf : w0.layFits P laid [] = true) (hi : w0.layIfaces P laid w' = true) : laidMet P laid w' := by
 have e1 : (laid.filter fun x => (laid.map (·.1)).contains x.1) = laid := List.filter_eq_self.2 fun x hx => List.contains_iff_mem.2 (List.mem_map.2 ⟨x, hx, rfl⟩)
 have e2 : (laid.filter fun x => !(laid.map (·.1)).contains x.1) = [] := List.filter_eq_nil_iff.2 fun x hx => by rw [List.contains_iff_mem.2 (List.mem_map.2 ⟨x, hx, rfl⟩)]; simp
 exact laidMet_layVars (w0 := w0) (laid.map (·.1)) [] (by rw [e1]; exact hh) (by rw [e1]; exact hf) (by rw [e1]; exact hi) (by rw [e2]; exact LaidIn.none)
theorem textT_of {W : World} {l : List (String × DataW Unit)} (h : laidMet Tryz.prog l W) (hx : ("internal/strconv.uint64pow10", Rows.laid_internal_strconv_uint64pow10) ∈ l) (hsh : W.ShapedOpen Tryz.prog) : TextT W := by
 constructor
 ·obtain ⟨g, t, cs, fuel, p, hg, ht, hv, hd⟩ := laid_var h hx
  obtain rfl := Option.some.inj ((show Tryz.prog.globalNamed "internal/strconv.uint64pow10" = some 9 by kernel_rfl).symm.trans hg)
  obtain rfl := Option.some.inj ((show (Tryz.prog.globals[9]?).map (·.type) = some 289 by kernel_rfl).symm.trans ht)
  have hd' : DataW.trod (fun _ => ()) Tryz.prog W 0 (fun _ => true) false fuel 289 cs.toList = some (Lib.tabData .u64 Lib.pow10Tab, p) := hd
  refine Lib.tabBelow_of_tabIs ?_
  unfold Lib.TabIs
  have := Lib.cells_of_tab Tryz.underlying289 (by kernel_rfl) (by kernel_rfl) (by kernel_rfl) hd'
  rw [hv, ← this]
 ·obtain ⟨m, hm⟩ := Tryz.laysM155.s1_3 W hsh
  have hm' : W.cell? ⟨6, 0, none⟩ = some (.int .i64 m) := hm
  refine ⟨m, hm', ?_⟩
  rcases Nat.lt_or_ge 6 W.heap.size with h' | h'
  ·exact h'
  ·simp [World.cell?, Array.getElem?_eq_none h'] at hm'
end Go.Proofs.YtpbbkpfaphjdoaaGreatDoor
namespace Go.Proofs.YtpbbkpfaphjdoaaGreatDoor
open Go.RowKit Go.Extern.Stop Go.Stop Go.Extern
namespace As
end As
open As
end Go.Proofs.YtpbbkpfaphjdoaaGreatDoor
namespace Go.Proofs.YtpbbkpfaphjdoaaGreatDoor
open Go.RowKit
def ErrT (w : World) : Prop := w.cell? ⟨1, 0, none⟩ = some (.iface 240 (.agg #[.pointer (some ⟨14, 38, none⟩)]))
theorem ErrT.keep {w w' : World} (h : ErrT w) (hb : Below w.heap.size w w') : ErrT w' :=
 (hb.cell (p := ⟨1, 0, none⟩) (World.block_lt_of_cell? w _ h)).trans h
end Go.Proofs.YtpbbkpfaphjdoaaGreatDoor
namespace Go.Proofs.YtpbbkpfaphjdoaaGreatDoor
open Go.ChangeShapes Go.WideShapes Go.ChangeAt Go.RowKit
theorem own : ownKnob Tryz.prog.godebug = none := by kernel_rfl
theorem laidOut : laidOutB Tryz.prog = true := by kernel_rfl
section
variable {H : Type} {enc : TypeId × Value → H} {P : Program}
theorem trodAll_below {W W' : World} (hl : laidOutB P = true) (hb : Below W.heap.size W W') {sp : Nat → Bool} :
  ∀ (ts : List TypeId) (vs : List Value) (ds : List (DataW H)) (p : List MemPlace), (∀ t ∈ ts, P.readableRec t = true ∧ t < P.types.size) →
   DataW.TrodAll enc P W 0 (fun _ => true) true ts vs ds p → (∀ x ∈ p, x.block < W.heap.size) → (∀ x ∈ p, sp x.block = true) → DataW.TrodAll enc P W' 0 sp true ts vs ds p
 | [], [], [], _, _, h, _, _ => h
 | t :: ts, v :: vs, d :: ds, ps, hr, h, hlt, hsp => by
  obtain ⟨p, q, h1, h2, rfl⟩ := h
  obtain ⟨hr1, hr2⟩ := hr t (List.mem_cons_self)
  refine ⟨p, q, ?_, trodAll_below hl hb ts vs ds q (fun t ht => hr t (List.mem_cons_of_mem _ ht)) h2 (fun x hx => hlt x (List.mem_append_right _ hx)) (fun x hx => hsp x (List.mem_append_right _ hx)), rfl⟩
  exact WideElems.Trod_stays hl hr1 hr2 h1 (fun x hx => hb.same (hlt x (List.mem_append_left _ hx))) (fun x hx => hsp x (List.mem_append_left _ hx))
 | [], _ :: _, _, _, _, h, _, _ => h.elim
 | [], [], _ :: _, _, _, h, _, _ => h.elim
 | _ :: _, [], _, _, _, h, _, _ => by cases h
 | _ :: _, _ :: _, [], _, _, h, _, _ => by cases h
theorem law_post {f : Func} {s : ChangeSpec} {apart fresh handsOn again : Bool} {W W' : World} {args : Array Value} {ds gs : List (DataW H)} {before : List MemPlace} {tb : TypeId}
  (hl : laidOutB P = true) (htb : P.underlying tb = some .bool) (hrt : f.resultTypes = #[tb]) (hv : s.vars = [])
  (hr : ∀ t ∈ f.params.toList, P.readableRec t = true ∧ t < P.types.size)
  (hW : DataW.Whole enc P f.params.toList s.vars apart W args.toList ds gs before)
  (hfn : s.fn H (ds ++ gs) = { results := [.lit (.bool true)], args := ds })
  (hb : Below W.heap.size W W') : s.post enc P f apart fresh handsOn again W args (.bool true) W' := by
 have hW' := hW
 obtain ⟨p, q, hA, hV, rfl, hz, hn⟩ := hW
 obtain ⟨rfl, rfl⟩ : gs = [] ∧ q = [] := by
  rw [hv] at hV
  cases gs with
  | nil => exact ⟨rfl, hV⟩
  | cons g r => exact absurd hV (by intro h; cases h)
 have hlt : ∀ x ∈ p ++ [], x.block < W.heap.size := fun x hx => hW'.lt x hx
 have hold : ∀ x ∈ p ++ [], (fun b => decide (b < W.heap.size)) x.block = true := fun x hx => by simpa using hlt x hx
 have hargs : ∀ sp : Nat → Bool, (∀ x ∈ p ++ [], sp x.block = true) → DataW.TrodAll enc P W' 0 sp true f.params.toList args.toList (s.fn H (ds ++ [])).args p := by
  intro sp hsp
  rw [hfn]
  exact trodAll_below hl hb _ _ _ _ hr hA (fun x hx => hlt x (List.mem_append_left _ hx)) (fun x hx => hsp x (List.mem_append_left _ hx))
 have hvars : ∀ sp : Nat → Bool, DataW.TrodVars enc P W' sp s.vars (s.fn H (ds ++ [])).vars [] := by
  intro sp
  rw [hv, hfn]
  exact rfl
 have hres : ∀ (b : Nat) (sp : Nat → Bool) (hd : Bool), DataW.TrodAll enc P W' b sp hd f.resultTypes.toList ((Value.bool true).resultList f.resultTypes.size) (s.fn H (ds ++ [])).results [] := by
  intro b sp hd
  rw [hfn, hrt]
  exact trodAll_cons_mk (shut_bool htb true) trodAll_mk0
 refine ⟨ds, [], p ++ [], [], p, [], hW', hres _ _ _, hargs _ hold, hvars _, World.keptBut_mono (fun x hx => ⟨hx, Or.inr (by simpa using hx)⟩) (hb.frame (· ∈ p ++ [])), fun _ => ?_⟩
 refine ⟨?_, _, _, ([] ++ p) ++ [], ⟨[] ++ p, [], trodAll_append (hargs _ (fun _ _ => rfl)) (hres _ _ _), hvars _, rfl, ?_, ?_⟩, ?_⟩
 ·rw [hrt]
  intro j t r ht hr'
  rcases j with _ | j
  ·simp only [List.getElem?_toArray, List.getElem?_cons_zero, Option.some.injEq] at ht
   subst ht
   have : r = .bool true := by simpa [Value.resultList] using hr'.symm
   subst this
   exact okWide_bool_mk htb true
  ·simp at ht
 ·intro b off hp
  have hin : MemPlace.cell b off ∈ p ++ [] := by simpa using hp
  rw [hb.frozen (hlt _ hin)]
  exact hz b off hin
 ·intro ha
  simpa using hn ha
 ·intro x hx _
  simpa using hx
end
end Go.Proofs.YtpbbkpfaphjdoaaGreatDoor
namespace Go.Proofs.YtpbbkpfaphjdoaaGreatDoor
open Go.ChangeShapes Go.WideShapes Go.RowKit
theorem et : Tryz.prog.globalNamed "errors.errorType" = some 1 := by kernel_rfl
theorem rt : (Tryz.prog.cutTypes.find? (·.1 == "internal/reflectlite.rtype")).map (·.2) = some 240 := by kernel_rfl
end Go.Proofs.YtpbbkpfaphjdoaaGreatDoor
namespace Go.Proofs.YtpbbkpfaphjdoaaGreatDoor
open Go.ChangeShapes Go.WideShapes Go.ChangeAt Go.RowKit
theorem cellsCol : Tryz.prog.cellsOf 103 = 2 := by kernel_rfl
theorem cells9 : Tryz.prog.cellsOf 9 = 1 := by kernel_rfl
theorem cells3 : Tryz.prog.cellsOf 3 = 1 := by kernel_rfl
section
variable {H : Type} {enc : TypeId × Value → H} {w : World}
set_option maxRecDepth 100000 in
theorem col_of {m : Nat} {cs : List Value} {y : DataW H × List MemPlace} (h : DataW.trod enc Tryz.prog w 0 (fun _ => true) true m 103 cs = some y) :
  ∃ c : Col, cs = colCells c ∧ c.name.size ≤ maxLen ∧ (Lit.int .i64 c.type).wf = true := by
 obtain ⟨xs, n, _, _, hlen, hxs, hf⟩ := DataW.trod_struct Tryz.underlying103 h
 rw [cellsCol] at hlen
 match cs, hlen with
 | [v0, v1], _ =>
  have hx : xs.length = 2 := hxs
  have h0 : DataW.trod enc Tryz.prog w 0 (fun _ => true) true n 9 (([v0, v1].drop 0).take (Tryz.prog.cellsOf 9)) = xs[0]? := hf 0 _ rfl
  have h1 : DataW.trod enc Tryz.prog w 0 (fun _ => true) true n 3 (([v0, v1].drop 1).take (Tryz.prog.cellsOf 3)) = xs[1]? := hf 1 _ rfl
  rw [cells9, List.getElem?_eq_getElem (by omega)] at h0
  rw [cells3, List.getElem?_eq_getElem (by omega)] at h1
  obtain ⟨s, e0, _, hs⟩ := DataW.trod_string Tryz.underlying9 h0
  obtain ⟨t, e1, _, ht⟩ := DataW.trod_int Tryz.underlying3 h1
  injection e0 with e0
  injection e1 with e1
  subst e0 e1
  exact ⟨⟨s, t⟩, rfl, hs, ht⟩
set_option maxRecDepth 100000 in
theorem open_cols {v : Value} {d : DataW H} {p : List MemPlace} (hok : ∃ A n c, v = .slice A n c) (h : DataW.Trod enc Tryz.prog w 0 (fun _ => true) true 31 v d p) :
  ∃ (A : Option Addr) (n c : Nat) (l : List Col), v = .slice A n c ∧ SeesCols w A n c l ∧ ∀ x ∈ l, x.name.size ≤ maxLen ∧ (Lit.int .i64 x.type).wf = true := by
 obtain ⟨A0, n0, c0, rfl⟩ := hok
 obtain ⟨fuel, hf⟩ := h
 obtain ⟨A, n, c, css, ds, e, hn, _, hs, hl, hR, _⟩ := open_sees Tryz.underlying31 cellsCol (by decide) hf
  (fun u _ => ∃ x : Col, u = colCells x ∧ x.name.size ≤ maxLen ∧ (Lit.int .i64 x.type).wf = true) (fun m cs' y _ hy => col_of hy)
 have hall : ∀ u ∈ css, ∃ x : Col, u = colCells x ∧ x.name.size ≤ maxLen ∧ (Lit.int .i64 x.type).wf = true := by
  intro u hu
  obtain ⟨k, hk⟩ := List.mem_iff_getElem?.1 hu
  obtain ⟨_, _, hx⟩ := hR k u hk
  exact hx
 obtain ⟨l, hl1, hl2⟩ : ∃ l : List Col, css = l.map colCells ∧ ∀ x ∈ l, x.name.size ≤ maxLen ∧ (Lit.int .i64 x.type).wf = true := by
  clear hR hs hn hl hf e
  induction css with
  | nil => exact ⟨[], rfl, by simp⟩
  | cons u css ih =>
   obtain ⟨l, rfl, h2⟩ := ih fun u hu => hall u (List.mem_cons_of_mem _ hu)
   obtain ⟨x, rfl, h3⟩ := hall u List.mem_cons_self
   exact ⟨x :: l, rfl, fun y hy => (List.mem_cons.1 hy).elim (fun e => by rw [e]; exact h3) (fun hy => h2 y hy)⟩
 subst hl1
 have e : Value.slice A0 n0 c0 = .slice A n c := by simpa [Value.cells] using e
 refine ⟨A, n, c, l, e, ⟨by simpa using hn, ?_⟩, hl2⟩
 rw [show colsCells l = (l.map colCells).flatten from List.flatMap_def]
 exact hs
end
end Go.Proofs.YtpbbkpfaphjdoaaGreatDoor
