/- sluiceref1.Do, at any values that are right for the operation. sluiceref1.Row, walked: what is wrong with a row. sluicesame.Ints, walked: are two lists of numbers the same? -/
import Derived.Test.YtpbbkpfaphjdoaaGreatDoorFRefDo
import Derived.Test.YtpbbkpfaphjdoaaGreatDoorFRefRule
import Derived.Test.YtpbbkpfaphjdoaaGreatDoorFRowCheck
import Derived.Test.YtpbbkpfaphjdoaaGreatDoorFRefVal
import Derived.Test.YtpbbkpfaphjdoaaGreatDoorFRefBase
import Derived.Test.YtpbbkpfaphjdoaaGreatDoorFRefRow
import Derived.Test.YtpbbkpfaphjdoaaGreatDoorFAnyInt
import Derived.Deep.QuietTactic
import Derived.BigQuiet
namespace Go.Proofs.YtpbbkpfaphjdoaaGreatDoor
open Go.ChangeShapes Go.WideShapes Go.ChangeAt Go.RowKit
theorem same_type {x y : Val} (h : fitsGrp 1 (typesOf [x, y]) = true) : x.type = y.type := by
 rw [two_fits rfl] at h
 exact (allThe_at h (x := y.type) (by simp [typesOf])).symm
theorem rdo_any (s : ByteArray) (l : List Val) (A : Option Addr) (n c : Nat) (w : World) (hl : SeesVals w A n c l) (ho : isOpB s = true) (hn : (l.length : Int) = arityOf s)
  (hw : ∀ v ∈ l, v.wf) (hc : ∀ v ∈ l, vcheck v = 0) (hf : fitsGrp (grp s) (typesOf l) = true) :
  Calls Tryz.prog 72 #[.string s, .slice A n c] w (RDoSays (applyVal s l) (applyErr s l) w) := by
 have hln := hl.1
 rcases ops_cases ho with rfl | rfl | rfl | rfl | rfl | rfl | rfl | rfl | rfl | rfl | rfl | rfl | rfl | rfl | rfl | rfl | rfl
 ·rw [show arityOf ⟨#[111, 114]⟩ = 2 by decide] at hn
  obtain rfl : n = 2 := by omega
  match l, hn with
  | [x, y], _ =>
   have h2 : allThe (typesOf [x, y]) 2 = true := hf
   exact rdo_or [x, y] x y A c w hl rfl rfl (bool_of (hc x (by simp)) (allThe_at h2 (by simp [typesOf]))) (bool_of (hc y (by simp)) (allThe_at h2 (by simp [typesOf])))
 ·rw [show arityOf ⟨#[97, 110, 100]⟩ = 2 by decide] at hn
  obtain rfl : n = 2 := by omega
  match l, hn with
  | [x, y], _ =>
   have h2 : allThe (typesOf [x, y]) 2 = true := hf
   exact rdo_and [x, y] x y A c w hl rfl rfl (bool_of (hc x (by simp)) (allThe_at h2 (by simp [typesOf]))) (bool_of (hc y (by simp)) (allThe_at h2 (by simp [typesOf])))
 ·rw [show arityOf ⟨#[110, 111, 116]⟩ = 1 by decide] at hn
  obtain rfl : n = 1 := by omega
  match l, hn with
  | [x], _ =>
   have h2 : allThe (typesOf [x]) 2 = true := hf
   exact rdo_not [x] x A c w hl rfl (bool_of (hc x (by simp)) (allThe_at h2 (by simp [typesOf])))
 ·rw [show arityOf ⟨#[61]⟩ = 2 by decide] at hn
  obtain rfl : n = 2 := by omega
  match l, hn with
  | [x, y], _ => exact rdo_eq [x, y] x y A c w hl rfl rfl (hc x (by simp)) (hc y (by simp)) (same_type hf)
 ·rw [show arityOf ⟨#[60, 62]⟩ = 2 by decide] at hn
  obtain rfl : n = 2 := by omega
  match l, hn with
  | [x, y], _ => exact rdo_ne [x, y] x y A c w hl rfl rfl (hc x (by simp)) (hc y (by simp)) (same_type hf)
 ·rw [show arityOf ⟨#[60]⟩ = 2 by decide] at hn
  obtain rfl : n = 2 := by omega
  match l, hn with
  | [x, y], _ => exact rdo_lt [x, y] x y A c w hl rfl rfl (hc x (by simp)) (hc y (by simp)) (same_type hf)
 ·rw [show arityOf ⟨#[60, 61]⟩ = 2 by decide] at hn
  obtain rfl : n = 2 := by omega
  match l, hn with
  | [x, y], _ => exact rdo_le [x, y] x y A c w hl rfl rfl (hc x (by simp)) (hc y (by simp)) (same_type hf)
 ·rw [show arityOf ⟨#[62]⟩ = 2 by decide] at hn
  obtain rfl : n = 2 := by omega
  match l, hn with
  | [x, y], _ => exact rdo_gt [x, y] x y A c w hl rfl rfl (hc x (by simp)) (hc y (by simp)) (same_type hf)
 ·rw [show arityOf ⟨#[62, 61]⟩ = 2 by decide] at hn
  obtain rfl : n = 2 := by omega
  match l, hn with
  | [x, y], _ => exact rdo_ge [x, y] x y A c w hl rfl rfl (hc x (by simp)) (hc y (by simp)) (same_type hf)
 ·rw [show arityOf ⟨#[43]⟩ = 2 by decide] at hn
  obtain rfl : n = 2 := by omega
  match l, hn with
  | [x, y], _ => exact rdo_n43 [x, y] x y A c w hl rfl rfl (hw x (by simp)).2.1 (hw y (by simp)).2.1
 ·rw [show arityOf ⟨#[45]⟩ = 2 by decide] at hn
  obtain rfl : n = 2 := by omega
  match l, hn with
  | [x, y], _ => exact rdo_n45 [x, y] x y A c w hl rfl rfl (hw x (by simp)).2.1 (hw y (by simp)).2.1
 ·rw [show arityOf ⟨#[42]⟩ = 2 by decide] at hn
  obtain rfl : n = 2 := by omega
  match l, hn with
  | [x, y], _ => exact rdo_n42 [x, y] x y A c w hl rfl rfl (hw x (by simp)).2.1 (hw y (by simp)).2.1
 ·rw [show arityOf ⟨#[47]⟩ = 2 by decide] at hn
  obtain rfl : n = 2 := by omega
  match l, hn with
  | [x, y], _ => exact rdo_n47 [x, y] x y A c w hl rfl rfl (hw x (by simp)).2.1 (hw y (by simp)).2.1
 ·rw [show arityOf ⟨#[37]⟩ = 2 by decide] at hn
  obtain rfl : n = 2 := by omega
  match l, hn with
  | [x, y], _ => exact rdo_n37 [x, y] x y A c w hl rfl rfl (hw x (by simp)).2.1 (hw y (by simp)).2.1
 ·rw [show arityOf ⟨#[110, 101, 103]⟩ = 1 by decide] at hn
  obtain rfl : n = 1 := by omega
  match l, hn with
  | [x], _ => exact rdo_neg [x] x A c w hl rfl (hw x (by simp)).2.1
 ·rw [show arityOf ⟨#[108, 101, 110]⟩ = 1 by decide] at hn
  obtain rfl : n = 1 := by omega
  match l, hn with
  | [x], _ => exact rdo_len [x] x A c w hl rfl (hw x (by simp)).2.2
 ·rw [show arityOf ⟨#[105, 102]⟩ = 3 by decide] at hn
  obtain rfl : n = 3 := by omega
  match l, hn with
  | [x, y, z], _ =>
   have hf' : ((x.type == 2) && (y.type == z.type)) = true := hf
   simp at hf'
   exact rdo_if [x, y, z] x y z A c w hl rfl rfl rfl (bool_of (hc x (by simp)) hf'.1)
end Go.Proofs.YtpbbkpfaphjdoaaGreatDoor
namespace Go.Proofs.YtpbbkpfaphjdoaaGreatDoor
open Go.ChangeShapes Go.WideShapes Go.ChangeAt Go.RowKit
end Go.Proofs.YtpbbkpfaphjdoaaGreatDoor
