/- The library's maps.Keys, slices.Sorted and slices.Sort at []int, laid over this program (printed by mk_sorts.py). -/
import Derived.Test.YtgmhelclofnpkaaGreatKit
import Derived.Test.YtgmhelclofnpkaaGreatProg
import Derived.Shelf.SlIterI.Nil
import Derived.Shelf.SortM.Plain
import Derived.Shelf.SortM.SortNone
namespace Go.Proofs.YtgmhelclofnpkaaGreat
open Go.RowKit Go.Maps Go.Sort Go.Shelf

def keysAR : Ren := ⟨fun n => if n = 7 then 60 else if n = 10 then 83 else n, fun n => if n = 23 then 104 else if n = 26 then 3 else if n = 3 then 3 else if n = 28 then 107 else if n = 0 then 0 else if n = 27 then 106 else if n = 33 then 114 else if n = 4 then 4 else n, fun n => n⟩
theorem keysAL : SlLaysZI.n7 Tryz.prog keysAR where
  mixed := by kernel_rfl
  f7 := ⟨Tryz.f60.name, by kernel_rfl, by kernel_rfl⟩
  f10 := ⟨Tryz.f83.name, by kernel_rfl, by kernel_rfl⟩
  t0 := by kernel_rfl
  a0 := fun _ => by kernel_rfl
  z0 := fun _ => by kernel_rfl
  v0 := fun _ => by kernel_rfl
  t4 := by kernel_rfl
  a4 := fun _ => by kernel_rfl
  z4 := fun _ => by kernel_rfl
  v4 := fun _ => by kernel_rfl
  t23 := by kernel_rfl
  a23 := fun _ => by kernel_rfl
  z23 := fun _ => by kernel_rfl
  v23 := fun _ => by kernel_rfl
  t26 := by kernel_rfl
  a26 := fun _ => by kernel_rfl
  z26 := fun _ => by kernel_rfl
  v26 := fun _ => by kernel_rfl
  t27 := by kernel_rfl
  a27 := fun _ => by kernel_rfl
  z27 := fun _ => by kernel_rfl
  v27 := fun _ => by kernel_rfl
  t28 := by kernel_rfl
  a28 := fun _ => by kernel_rfl
  z28 := fun _ => by kernel_rfl
  v28 := fun _ => by kernel_rfl
  t33 := by kernel_rfl
  a33 := fun _ => by kernel_rfl
  z33 := fun _ => by kernel_rfl
  v33 := fun _ => by kernel_rfl
def sortedAR : Ren := ⟨fun n => if n = 6 then 59 else if n = 8 then 81 else if n = 9 then 82 else if n = 11 then 93 else if n = 13 then 95 else if n = 12 then 94 else if n = 23 then 107 else if n = 24 then 108 else if n = 14 then 98 else if n = 15 then 99 else if n = 16 then 100 else if n = 17 then 101 else if n = 18 then 102 else if n = 19 then 103 else if n = 20 then 104 else if n = 21 then 105 else if n = 22 then 106 else if n = 25 then 109 else if n = 26 then 110 else if n = 27 then 111 else if n = 28 then 112 else if n = 29 then 113 else if n = 30 then 114 else if n = 31 then 115 else n, fun n => if n = 26 then 3 else if n = 28 then 107 else if n = 24 then 27 else if n = 0 then 0 else if n = 3 then 3 else if n = 37 then 138 else if n = 48 then 148 else if n = 50 then 150 else if n = 4 then 4 else if n = 40 then 141 else if n = 39 then 140 else if n = 45 then 57 else if n = 5 then 5 else if n = 9 then 9 else if n = 51 then 151 else if n = 55 then 155 else if n = 57 then 157 else if n = 58 then 65 else if n = 33 then 114 else n, fun n => n⟩
theorem sortedAL : SlLaysZI.n6 Tryz.prog sortedAR where
  mixed := by kernel_rfl
  f6 := ⟨Tryz.f59.name, by kernel_rfl, by kernel_rfl⟩
  f8 := ⟨Tryz.f81.name, by kernel_rfl, by kernel_rfl⟩
  f11 := ⟨Tryz.f93.name, by kernel_rfl, by kernel_rfl⟩
  t0 := by kernel_rfl
  a0 := fun _ => by kernel_rfl
  z0 := fun _ => by kernel_rfl
  v0 := fun _ => by kernel_rfl
  t24 := by kernel_rfl
  a24 := fun _ => by kernel_rfl
  z24 := fun _ => by kernel_rfl
  v24 := fun _ => by kernel_rfl
  t26 := by kernel_rfl
  a26 := fun _ => by kernel_rfl
  z26 := fun _ => by kernel_rfl
  v26 := fun _ => by kernel_rfl
  t28 := by kernel_rfl
  a28 := fun _ => by kernel_rfl
  z28 := fun _ => by kernel_rfl
  v28 := fun _ => by kernel_rfl
  i26 := by kernel_rfl
def sortAR : Ren := ⟨fun n => if n = 5 then 82 else if n = 8 then 95 else if n = 7 then 94 else if n = 19 then 107 else if n = 20 then 108 else if n = 10 then 98 else if n = 11 then 99 else if n = 12 then 100 else if n = 13 then 101 else if n = 14 then 102 else if n = 15 then 103 else if n = 16 then 104 else if n = 17 then 105 else if n = 18 then 106 else if n = 30 then 109 else if n = 31 then 110 else if n = 32 then 111 else if n = 33 then 112 else if n = 34 then 113 else if n = 35 then 114 else if n = 40 then 115 else n, fun n => if n = 23 then 27 else if n = 25 then 3 else if n = 3 then 3 else if n = 32 then 138 else if n = 22 then 27 else if n = 0 then 0 else if n = 44 then 148 else if n = 46 then 150 else if n = 4 then 4 else if n = 36 then 141 else if n = 35 then 140 else if n = 41 then 57 else if n = 5 then 5 else if n = 9 then 9 else if n = 53 then 151 else if n = 57 then 155 else if n = 63 then 157 else if n = 64 then 65 else n, fun n => n⟩
theorem sortAL : SlLaysM.n5 Tryz.prog sortAR where
  mixed := by kernel_rfl
  f5 := ⟨Tryz.f82.name, by kernel_rfl, by kernel_rfl⟩
  f7 := ⟨Tryz.f94.name, by kernel_rfl, by kernel_rfl⟩
  f8 := by kernel_rfl
  f10 := ⟨Tryz.f98.name, by kernel_rfl, by kernel_rfl⟩
  f11 := ⟨Tryz.f99.name, by kernel_rfl, by kernel_rfl⟩
  f12 := ⟨Tryz.f100.name, by kernel_rfl, by kernel_rfl⟩
  f13 := ⟨Tryz.f101.name, by kernel_rfl, by kernel_rfl⟩
  f14 := ⟨Tryz.f102.name, by kernel_rfl, by kernel_rfl⟩
  f15 := ⟨Tryz.f103.name, by kernel_rfl, by kernel_rfl⟩
  f16 := ⟨Tryz.f104.name, by kernel_rfl, by kernel_rfl⟩
  f17 := ⟨Tryz.f105.name, by kernel_rfl, by kernel_rfl⟩
  f18 := ⟨Tryz.f106.name, by kernel_rfl, by kernel_rfl⟩
  f19 := by kernel_rfl
  f20 := by kernel_rfl
  f30 := ⟨Tryz.f109.name, by kernel_rfl, by kernel_rfl⟩
  f31 := by kernel_rfl
  f32 := by kernel_rfl
  f33 := ⟨Tryz.f112.name, by kernel_rfl, by kernel_rfl⟩
  f34 := ⟨Tryz.f113.name, by kernel_rfl, by kernel_rfl⟩
  f35 := ⟨Tryz.f114.name, by kernel_rfl, by kernel_rfl⟩
  f40 := ⟨Tryz.f115.name, by kernel_rfl, by kernel_rfl⟩
  t0 := by kernel_rfl
  a0 := fun _ => by kernel_rfl
  z0 := fun _ => by kernel_rfl
  v0 := fun _ => by kernel_rfl
  t3 := by kernel_rfl
  a3 := fun _ => by kernel_rfl
  z3 := fun _ => by kernel_rfl
  v3 := fun _ => by kernel_rfl
  t4 := by kernel_rfl
  a4 := fun _ => by kernel_rfl
  z4 := fun _ => by kernel_rfl
  v4 := fun _ => by kernel_rfl
  t5 := by kernel_rfl
  a5 := fun _ => by kernel_rfl
  z5 := fun _ => by kernel_rfl
  v5 := fun _ => by kernel_rfl
  t9 := by kernel_rfl
  a9 := fun _ => by kernel_rfl
  z9 := fun _ => by kernel_rfl
  v9 := fun _ => by kernel_rfl
  t22 := by kernel_rfl
  a22 := fun _ => by kernel_rfl
  z22 := fun _ => by kernel_rfl
  v22 := fun _ => by kernel_rfl
  t23 := by kernel_rfl
  a23 := fun _ => by kernel_rfl
  z23 := fun _ => by kernel_rfl
  v23 := fun _ => by kernel_rfl
  t25 := by kernel_rfl
  a25 := fun _ => by kernel_rfl
  z25 := fun _ => by kernel_rfl
  v25 := fun _ => by kernel_rfl
  t32 := by kernel_rfl
  a32 := fun _ => by kernel_rfl
  z32 := fun _ => by kernel_rfl
  v32 := fun _ => by kernel_rfl
  t35 := by kernel_rfl
  a35 := fun _ => by kernel_rfl
  z35 := fun _ => by kernel_rfl
  v35 := fun _ => by kernel_rfl
  t36 := by kernel_rfl
  a36 := fun _ => by kernel_rfl
  z36 := fun _ => by kernel_rfl
  v36 := fun _ => by kernel_rfl
  t41 := by kernel_rfl
  a41 := fun _ => by kernel_rfl
  z41 := fun _ => by kernel_rfl
  v41 := fun _ => by kernel_rfl
  t44 := by kernel_rfl
  a44 := fun _ => by kernel_rfl
  z44 := fun _ => by kernel_rfl
  v44 := fun _ => by kernel_rfl
  t46 := by kernel_rfl
  a46 := fun _ => by kernel_rfl
  z46 := fun _ => by kernel_rfl
  v46 := fun _ => by kernel_rfl
  t53 := by kernel_rfl
  a53 := fun _ => by kernel_rfl
  z53 := fun _ => by kernel_rfl
  v53 := fun _ => by kernel_rfl
  t57 := by kernel_rfl
  a57 := fun _ => by kernel_rfl
  z57 := fun _ => by kernel_rfl
  v57 := fun _ => by kernel_rfl
  t63 := by kernel_rfl
  a63 := fun _ => by kernel_rfl
  z63 := fun _ => by kernel_rfl
  v63 := fun _ => by kernel_rfl
  t64 := by kernel_rfl
  a64 := fun _ => by kernel_rfl
  z64 := fun _ => by kernel_rfl
  v64 := fun _ => by kernel_rfl
theorem sortsA (m : Nat) : AnyZI.SortsIn Tryz.prog sortedAR Fence.wide m :=
  ⟨fun blk off cap ss W hH hblk hsz => callsIn_wide.2 (AnyM.slices_Sort_int sortAL blk off cap ss W hH hblk hsz),
   fun p cap W => callsIn_wide.2 (AnyM.slices_Sort_int_none sortAL p cap W)⟩
theorem keysW (mb : Option Nat) (W : World) : Calls Tryz.prog 60 #[.map mb] W fun e w' => e = .returned (.func (.func 83) #[] #[.pointer (some ⟨W.heap.size, 0, none⟩)]) ∧ w' = W.alloc (.cells #[.map mb] 104) :=
  (callsIn_wide (n := 5)).1 (AnyZI.keys_in keysAL Fence.wide 5 trivial rfl mb W)
theorem sortedW {H : Type} (b nn : Nat) (D0 : DataW H) (R : Value → Option (DataW H × List MemPlace)) (w : World) (hown : w.ownsMap Tryz.prog 3 R b nn D0) (hmax : Maps.size D0 ≤ maxLen) (hbytes : Maps.size D0 * 8 ≤ 140737488355328) :
    Calls Tryz.prog 59 #[.func (.func 83) #[] #[.pointer (some ⟨w.heap.size, 0, none⟩)]] (w.alloc (.cells #[.map (some b)] 104)) fun e w' => ∃ (v : Value) (ss : List Int), e = .returned v ∧ ss.Perm (intKeys D0) ∧
      w'.ownsRow (w.heap.size + 1) 3 1 v ss.length ((ss.mergeSort (fun x y => decide (x ≤ y))).map encZ) ∧ (v = .slice none 0 0 ↔ ss = []) ∧ Below (w.heap.size + 1) (w.alloc (.cells #[.map (some b)] 104)) w' := by
  have hbl := hown.lt
  have hseq : SeqGives Fence.wide 2 Tryz.prog 83 #[.pointer (some ⟨w.heap.size, 0, none⟩)] encZ (fun ss => ss.Perm (intKeys D0)) (Maps.size D0) (w.alloc (.cells #[.map (some b)] 104)) :=
    AnyZI.keys_gives (ρ := keysAR) { keysAL with } Fence.wide _ trivial rfl (by omega) w.heap.size b nn D0 _ (by simp) (by simp) (by
      obtain ⟨es, clock, hb, Ft, hs, hD⟩ := hown
      exact ⟨es, clock, (Below.heap_alloc _ _ b hbl).trans hb, Ft, hs, hD⟩)
  have cS := AnyZI.sorted_in sortedAL Fence.wide 5 trivial trivial trivial trivial rfl (by omega) (sortsA _) (enters_of Tryz.func82 (by kernel_rfl) rfl) 83 #[.pointer (some ⟨w.heap.size, 0, none⟩)] trivial (enters_of Tryz.func83 (by kernel_rfl) rfl) _ _ hmax hbytes _ hseq
  change CallsIn _ _ Tryz.prog 59 _ _ _ at cS
  refine ((callsIn_wide (n := 5)).1 cS).mono ?_
  rintro e w' ⟨v, ss, h1, h2, h3, h4, h5⟩
  rw [World.size_alloc] at h3 h5
  exact ⟨v, ss, h1, h2, h3, h4, h5⟩
end Go.Proofs.YtgmhelclofnpkaaGreat
