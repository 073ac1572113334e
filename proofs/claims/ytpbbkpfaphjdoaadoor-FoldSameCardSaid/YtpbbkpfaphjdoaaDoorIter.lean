/- The library's contracts on sorted keys of a map at this translation, laid by the kit's own tool. -/
import Derived.Shelf.SlGeneric
import Derived.Shelf.SlIter.Nil
import Derived.Shelf.SortM.Plain
import Derived.Shelf.SortM.SortNone
import Derived.Ground.GgzProg
import Derived.Ground.SlgmProg
import Derived.Test.YtpbbkpfaphjdoaaDoorProg
namespace Go.Proofs
open Go.Shelf
def Tryd.keys59_ren : Go.Shelf.Ren := ⟨fun | 7 => 59 | 10 => 108 | n => n, fun | 23 => 110 | 26 => 9 | 3 => 4 | 28 => 114 | 0 => 0 | 27 => 113 | 33 => 52 | 4 => 4 | n => n, fun | n => n⟩
theorem Tryd.keys59 : Go.Proofs.SlLaysZ.n7 Tryd.prog Tryd.keys59_ren := {
  mixed := by kernel_rfl
  f7 := ⟨Tryd.f59.name, by decide, Tryd.func59.trans (congrArg some (by kernel_rfl))⟩
  f10 := ⟨Tryd.f108.name, by decide, Tryd.func108.trans (congrArg some (by kernel_rfl))⟩
  t0 := Tryd.underlying0
  a0 := Tryd.isAgg0
  z0 := Tryd.sizeOf0
  v0 := Tryd.zeroValue0
  t4 := Tryd.underlying4
  a4 := Tryd.isAgg4
  z4 := Tryd.sizeOf4
  v4 := Tryd.zeroValue4
  t23 := Tryd.underlying110
  a23 := Tryd.isAgg110
  z23 := Tryd.sizeOf110
  v23 := Tryd.zeroValue110
  t26 := Tryd.underlying9
  a26 := Tryd.isAgg9
  z26 := Tryd.sizeOf9
  v26 := Tryd.zeroValue9
  t27 := Tryd.underlying113
  a27 := Tryd.isAgg113
  z27 := Tryd.sizeOf113
  v27 := Tryd.zeroValue113
  t28 := Tryd.underlying114
  a28 := Tryd.isAgg114
  z28 := Tryd.sizeOf114
  v28 := Tryd.zeroValue114
  t33 := Tryd.underlying52
  a33 := Tryd.isAgg52
  z33 := Tryd.sizeOf52
  v33 := Tryd.zeroValue52 }
def Tryd.sorted58_ren : Go.Shelf.Ren := ⟨fun | 6 => 58 | 8 => 106 | 9 => 107 | 11 => 142 | 13 => 144 | 12 => 143 | 23 => 180 | 24 => 181 | 14 => 171 | 15 => 172 | 16 => 173 | 17 => 174 | 18 => 175 | 19 => 176 | 20 => 177 | 21 => 178 | 22 => 179 | 25 => 200 | 26 => 201 | 27 => 202 | 28 => 203 | 29 => 204 | 30 => 205 | 31 => 213 | n => n, fun | 26 => 9 | 28 => 114 | 24 => 66 | 0 => 0 | 3 => 3 | 37 => 193 | 48 => 236 | 50 => 158 | 4 => 4 | 40 => 230 | 39 => 229 | 45 => 118 | 5 => 5 | 9 => 9 | 51 => 251 | 55 => 255 | 57 => 270 | 58 => 26 | 33 => 52 | n => n, fun | n => n⟩
theorem Tryd.sorted58 : Go.Proofs.SlLaysZ.n6 Tryd.prog Tryd.sorted58_ren := {
  mixed := by kernel_rfl
  f6 := ⟨Tryd.f58.name, by decide, Tryd.func58.trans (congrArg some (by kernel_rfl))⟩
  f8 := ⟨Tryd.f106.name, by decide, Tryd.func106.trans (congrArg some (by kernel_rfl))⟩
  f11 := ⟨Tryd.f142.name, by decide, Tryd.func142.trans (congrArg some (by kernel_rfl))⟩
  t0 := Tryd.underlying0
  a0 := Tryd.isAgg0
  z0 := Tryd.sizeOf0
  v0 := Tryd.zeroValue0
  t24 := Tryd.underlying66
  a24 := Tryd.isAgg66
  z24 := Tryd.sizeOf66
  v24 := Tryd.zeroValue66
  t26 := Tryd.underlying9
  a26 := Tryd.isAgg9
  z26 := Tryd.sizeOf9
  v26 := Tryd.zeroValue9
  t28 := Tryd.underlying114
  a28 := Tryd.isAgg114
  z28 := Tryd.sizeOf114
  v28 := Tryd.zeroValue114
  i26 := by kernel_rfl }
def Tryd.sort107_ren : Go.Shelf.Ren := ⟨fun | 6 => 107 | 8 => 144 | 9 => 143 | 19 => 180 | 20 => 181 | 21 => 171 | 22 => 172 | 23 => 173 | 24 => 174 | 25 => 175 | 26 => 176 | 27 => 177 | 28 => 178 | 29 => 179 | 36 => 200 | 31 => 201 | 32 => 202 | 37 => 203 | 38 => 204 | 39 => 205 | 41 => 213 | n => n, fun | 27 => 66 | 29 => 9 | 3 => 3 | 32 => 193 | 26 => 66 | 0 => 0 | 44 => 236 | 46 => 158 | 4 => 4 | 36 => 230 | 35 => 229 | 41 => 118 | 5 => 5 | 9 => 9 | 53 => 251 | 57 => 255 | 63 => 270 | 64 => 26 | n => n, fun | n => n⟩
theorem Tryd.sort107 : Go.Proofs.SlLaysM.n6 Tryd.prog Tryd.sort107_ren := {
  mixed := by kernel_rfl
  f6 := ⟨Tryd.f107.name, by decide, Tryd.func107.trans (congrArg some (by kernel_rfl))⟩
  f8 := Tryd.func144.trans (congrArg some (by kernel_rfl))
  f9 := ⟨Tryd.f143.name, by decide, Tryd.func143.trans (congrArg some (by kernel_rfl))⟩
  f19 := Tryd.func180.trans (congrArg some (by kernel_rfl))
  f20 := Tryd.func181.trans (congrArg some (by kernel_rfl))
  f21 := ⟨Tryd.f171.name, by decide, Tryd.func171.trans (congrArg some (by kernel_rfl))⟩
  f22 := ⟨Tryd.f172.name, by decide, Tryd.func172.trans (congrArg some (by kernel_rfl))⟩
  f23 := ⟨Tryd.f173.name, by decide, Tryd.func173.trans (congrArg some (by kernel_rfl))⟩
  f24 := ⟨Tryd.f174.name, by decide, Tryd.func174.trans (congrArg some (by kernel_rfl))⟩
  f25 := ⟨Tryd.f175.name, by decide, Tryd.func175.trans (congrArg some (by kernel_rfl))⟩
  f26 := ⟨Tryd.f176.name, by decide, Tryd.func176.trans (congrArg some (by kernel_rfl))⟩
  f27 := ⟨Tryd.f177.name, by decide, Tryd.func177.trans (congrArg some (by kernel_rfl))⟩
  f28 := ⟨Tryd.f178.name, by decide, Tryd.func178.trans (congrArg some (by kernel_rfl))⟩
  f29 := ⟨Tryd.f179.name, by decide, Tryd.func179.trans (congrArg some (by kernel_rfl))⟩
  f31 := Tryd.func201.trans (congrArg some (by kernel_rfl))
  f32 := Tryd.func202.trans (congrArg some (by kernel_rfl))
  f36 := ⟨Tryd.f200.name, by decide, Tryd.func200.trans (congrArg some (by kernel_rfl))⟩
  f37 := ⟨Tryd.f203.name, by decide, Tryd.func203.trans (congrArg some (by kernel_rfl))⟩
  f38 := ⟨Tryd.f204.name, by decide, Tryd.func204.trans (congrArg some (by kernel_rfl))⟩
  f39 := ⟨Tryd.f205.name, by decide, Tryd.func205.trans (congrArg some (by kernel_rfl))⟩
  f41 := ⟨Tryd.f213.name, by decide, Tryd.func213.trans (congrArg some (by kernel_rfl))⟩
  t0 := Tryd.underlying0
  a0 := Tryd.isAgg0
  z0 := Tryd.sizeOf0
  v0 := Tryd.zeroValue0
  t3 := Tryd.underlying3
  a3 := Tryd.isAgg3
  z3 := Tryd.sizeOf3
  v3 := Tryd.zeroValue3
  t4 := Tryd.underlying4
  a4 := Tryd.isAgg4
  z4 := Tryd.sizeOf4
  v4 := Tryd.zeroValue4
  t5 := Tryd.underlying5
  a5 := Tryd.isAgg5
  z5 := Tryd.sizeOf5
  v5 := Tryd.zeroValue5
  t9 := Tryd.underlying9
  a9 := Tryd.isAgg9
  z9 := Tryd.sizeOf9
  v9 := Tryd.zeroValue9
  t26 := Tryd.underlying66
  a26 := Tryd.isAgg66
  z26 := Tryd.sizeOf66
  v26 := Tryd.zeroValue66
  t27 := Tryd.underlying66
  a27 := Tryd.isAgg66
  z27 := Tryd.sizeOf66
  v27 := Tryd.zeroValue66
  t29 := Tryd.underlying9
  a29 := Tryd.isAgg9
  z29 := Tryd.sizeOf9
  v29 := Tryd.zeroValue9
  t32 := Tryd.underlying193
  a32 := Tryd.isAgg193
  z32 := Tryd.sizeOf193
  v32 := Tryd.zeroValue193
  t35 := Tryd.underlying229
  a35 := Tryd.isAgg229
  z35 := Tryd.sizeOf229
  v35 := Tryd.zeroValue229
  t36 := Tryd.underlying230
  a36 := Tryd.isAgg230
  z36 := Tryd.sizeOf230
  v36 := Tryd.zeroValue230
  t41 := Tryd.underlying118
  a41 := Tryd.isAgg118
  z41 := Tryd.sizeOf118
  v41 := Tryd.zeroValue118
  t44 := Tryd.underlying236
  a44 := Tryd.isAgg236
  z44 := Tryd.sizeOf236
  v44 := Tryd.zeroValue236
  t46 := Tryd.underlying158
  a46 := Tryd.isAgg158
  z46 := Tryd.sizeOf158
  v46 := Tryd.zeroValue158
  t53 := Tryd.underlying251
  a53 := Tryd.isAgg251
  z53 := Tryd.sizeOf251
  v53 := Tryd.zeroValue251
  t57 := Tryd.underlying255
  a57 := Tryd.isAgg255
  z57 := Tryd.sizeOf255
  v57 := Tryd.zeroValue255
  t63 := Tryd.underlying270
  a63 := Tryd.isAgg270
  z63 := Tryd.sizeOf270
  v63 := Tryd.zeroValue270
  t64 := Tryd.underlying26
  a64 := Tryd.isAgg26
  z64 := Tryd.sizeOf26
  v64 := Tryd.zeroValue26 }
open Go.RowKit Go.Maps Go.Sort in
theorem Tryd.sorts58 (m : Nat) : AnyZ.SortsIn Tryd.prog Tryd.sorted58_ren Fence.wide m :=
  ⟨fun blk off cap ss W hH hblk hsz => callsIn_wide.2 (AnyM.slices_Sort_string Tryd.sort107 blk off cap ss W hH hblk hsz),
   fun p cap W => callsIn_wide.2 (AnyM.slices_Sort_string_none Tryd.sort107 p cap W)⟩
open Go.RowKit Go.Maps Go.Sort in
theorem Tryd.maps_Keys_59 (mb : Option Nat) (W : World) : CallsIn Fence.wide 5 Tryd.prog 59 #[.map mb] W fun e w' => e = .returned (.func (.func 108) #[] #[.pointer (some ⟨W.heap.size, 0, none⟩)]) ∧ w' = W.alloc (.cells #[.map mb] 110) :=
  AnyZ.keys_in Tryd.keys59 Fence.wide 5 trivial rfl mb W
open Go.RowKit Go.Maps Go.Sort in
theorem Tryd.slices_Sorted_keys_58_59 {H : Type} (b nn : Nat) (D0 : DataW H) (R : Value → Option (DataW H × List MemPlace)) (w : World) (hown : w.ownsMap Tryd.prog 9 R b nn D0) (hmax : Maps.size D0 ≤ maxLen) (hbytes : Maps.size D0 * 16 ≤ 140737488355328) :
    CallsIn Fence.wide 5 Tryd.prog 58 #[.func (.func 108) #[] #[.pointer (some ⟨w.heap.size, 0, none⟩)]] (w.alloc (.cells #[.map (some b)] 110)) fun e w' => ∃ (v : Value) (ss : List (List UInt8)), e = .returned v ∧ ss.Perm (strKeys D0) ∧
      w'.ownsRow (w.alloc (.cells #[.map (some b)] 110)).heap.size 9 1 v ss.length ((ss.mergeSort (fun x y => decide (x ≤ y))).map encStr) ∧ (v = .slice none 0 0 ↔ ss = []) ∧ Below (w.alloc (.cells #[.map (some b)] 110)).heap.size (w.alloc (.cells #[.map (some b)] 110)) w' := by
  have hbl := hown.lt
  have hseq : SeqGives Fence.wide 2 Tryd.prog 108 #[.pointer (some ⟨w.heap.size, 0, none⟩)] encStr (fun ss => ss.Perm (strKeys D0)) (Maps.size D0) (w.alloc (.cells #[.map (some b)] 110)) :=
    AnyZ.keys_gives (ρ := Tryd.keys59_ren) { Tryd.keys59 with } Fence.wide _ trivial rfl (by omega) w.heap.size b nn D0 _ (by simp) (by simp) (by
      obtain ⟨es, clock, hb, Ft, hs, hD⟩ := hown
      exact ⟨es, clock, (Below.heap_alloc _ _ b hbl).trans hb, Ft, hs, hD⟩)
  exact AnyZ.sorted_in Tryd.sorted58 Fence.wide 5 trivial trivial trivial trivial rfl (by omega) (Tryd.sorts58 _) (enters_of Tryd.func107 (by kernel_rfl) rfl) 108 #[.pointer (some ⟨w.heap.size, 0, none⟩)] trivial (enters_of Tryd.func108 (by kernel_rfl) rfl) _ _ hmax hbytes _ hseq
open Go.RowKit Go.Maps Go.Sort in
theorem Tryd.slices_Sorted_keys_nil_58_59 (w : World) :
    CallsIn Fence.wide 5 Tryd.prog 58 #[.func (.func 108) #[] #[.pointer (some ⟨w.heap.size, 0, none⟩)]] (w.alloc (.cells #[.map none] 110)) fun e w' => ∃ (v : Value) (ss : List (List UInt8)), e = .returned v ∧ ss = [] ∧
      w'.ownsRow (w.alloc (.cells #[.map none] 110)).heap.size 9 1 v ss.length ((ss.mergeSort (fun x y => decide (x ≤ y))).map encStr) ∧ (v = .slice none 0 0 ↔ ss = []) ∧ Below (w.alloc (.cells #[.map none] 110)).heap.size (w.alloc (.cells #[.map none] 110)) w' := by
  have hseq : SeqGives Fence.wide 2 Tryd.prog 108 #[.pointer (some ⟨w.heap.size, 0, none⟩)] encStr (fun ss : List (List UInt8) => ss = []) 0 (w.alloc (.cells #[.map none] 110)) :=
    AnyZ.keys_gives_nil (ρ := Tryd.keys59_ren) { Tryd.keys59 with } Fence.wide _ trivial rfl w.heap.size _ (by simp) (by simp)
  exact AnyZ.sorted_in Tryd.sorted58 Fence.wide 5 trivial trivial trivial trivial rfl (by omega) (Tryd.sorts58 _) (enters_of Tryd.func107 (by kernel_rfl) rfl) 108 #[.pointer (some ⟨w.heap.size, 0, none⟩)] trivial (enters_of Tryd.func108 (by kernel_rfl) rfl) _ 0 (Nat.zero_le _) (by omega) _ hseq
end Go.Proofs
