/- The library's maps.Keys, slices.Sorted and slices.Sort at []int, laid over this program (printed by mk_sorts.py). -/
import Derived.Test.YtgmhelclofnpkaaKit
import Derived.Test.YtgmhelclofnpkaaProg
import Derived.Shelf.SlIterI.Nil
import Derived.Shelf.SortM.Plain
import Derived.Shelf.SortM.SortNone
namespace Go.Proofs.Ytgmhelclofnpkaa
open Go.RowKit Go.Maps Go.Sort Go.Shelf

def keysAR : Ren := ⟨fun n => if n = 7 then 91 else if n = 10 then 118 else n, fun n => if n = 23 then 144 else if n = 26 then 3 else if n = 3 then 3 else if n = 28 then 147 else if n = 0 then 0 else if n = 27 then 146 else if n = 33 then 94 else if n = 4 then 4 else n, fun n => n⟩
theorem keysAL : SlLaysZI.n7 Try.prog keysAR where
  mixed := by kernel_rfl
  f7 := ⟨Try.f91.name, by kernel_rfl, by kernel_rfl⟩
  f10 := ⟨Try.f118.name, by kernel_rfl, by kernel_rfl⟩
  t0 := by kernel_rfl
  a0 := fun _ => by kernel_rfl
  z0 := fun _ => by kernel_rfl
  v0 := fun _ => by kernel_rfl
  t4 := by kernel_rfl
  a4 := fun _ => by kernel_rfl
  z4 := fun _ => by kernel_rfl
  v4 := fun _ => by kernel_rfl
  t23 := by kernel_rfl
  a23 := fun _ => by kernel_rfl
  z23 := fun _ => by kernel_rfl
  v23 := fun _ => by kernel_rfl
  t26 := by kernel_rfl
  a26 := fun _ => by kernel_rfl
  z26 := fun _ => by kernel_rfl
  v26 := fun _ => by kernel_rfl
  t27 := by kernel_rfl
  a27 := fun _ => by kernel_rfl
  z27 := fun _ => by kernel_rfl
  v27 := fun _ => by kernel_rfl
  t28 := by kernel_rfl
  a28 := fun _ => by kernel_rfl
  z28 := fun _ => by kernel_rfl
  v28 := fun _ => by kernel_rfl
  t33 := by kernel_rfl
  a33 := fun _ => by kernel_rfl
  z33 := fun _ => by kernel_rfl
  v33 := fun _ => by kernel_rfl
def sortedAR : Ren := ⟨fun n => if n = 6 then 90 else if n = 8 then 116 else if n = 9 then 117 else if n = 11 then 143 else if n = 13 then 96 else if n = 12 then 144 else if n = 23 then 128 else if n = 24 then 129 else if n = 14 then 154 else if n = 15 then 155 else if n = 16 then 156 else if n = 17 then 157 else if n = 18 then 158 else if n = 19 then 159 else if n = 20 then 160 else if n = 21 then 161 else if n = 22 then 162 else if n = 25 then 165 else if n = 26 then 147 else if n = 27 then 148 else if n = 28 then 166 else if n = 29 then 167 else if n = 30 then 94 else if n = 31 then 168 else n, fun n => if n = 26 then 3 else if n = 28 then 147 else if n = 24 then 38 else if n = 0 then 0 else if n = 3 then 3 else if n = 37 then 121 else if n = 48 then 187 else if n = 50 then 189 else if n = 4 then 4 else if n = 40 then 180 else if n = 39 then 179 else if n = 45 then 184 else if n = 5 then 5 else if n = 9 then 9 else if n = 51 then 198 else if n = 55 then 202 else if n = 57 then 212 else if n = 58 then 140 else if n = 33 then 94 else n, fun n => n⟩
theorem sortedAL : SlLaysZI.n6 Try.prog sortedAR where
  mixed := by kernel_rfl
  f6 := ⟨Try.f90.name, by kernel_rfl, by kernel_rfl⟩
  f8 := ⟨Try.f116.name, by kernel_rfl, by kernel_rfl⟩
  f11 := ⟨Try.f143.name, by kernel_rfl, by kernel_rfl⟩
  t0 := by kernel_rfl
  a0 := fun _ => by kernel_rfl
  z0 := fun _ => by kernel_rfl
  v0 := fun _ => by kernel_rfl
  t24 := by kernel_rfl
  a24 := fun _ => by kernel_rfl
  z24 := fun _ => by kernel_rfl
  v24 := fun _ => by kernel_rfl
  t26 := by kernel_rfl
  a26 := fun _ => by kernel_rfl
  z26 := fun _ => by kernel_rfl
  v26 := fun _ => by kernel_rfl
  t28 := by kernel_rfl
  a28 := fun _ => by kernel_rfl
  z28 := fun _ => by kernel_rfl
  v28 := fun _ => by kernel_rfl
  i26 := by kernel_rfl
def sortAR : Ren := ⟨fun n => if n = 5 then 117 else if n = 8 then 96 else if n = 7 then 144 else if n = 19 then 128 else if n = 20 then 129 else if n = 10 then 154 else if n = 11 then 155 else if n = 12 then 156 else if n = 13 then 157 else if n = 14 then 158 else if n = 15 then 159 else if n = 16 then 160 else if n = 17 then 161 else if n = 18 then 162 else if n = 30 then 165 else if n = 31 then 147 else if n = 32 then 148 else if n = 33 then 166 else if n = 34 then 167 else if n = 35 then 94 else if n = 40 then 168 else n, fun n => if n = 23 then 38 else if n = 25 then 3 else if n = 3 then 3 else if n = 32 then 121 else if n = 22 then 38 else if n = 0 then 0 else if n = 44 then 187 else if n = 46 then 189 else if n = 4 then 4 else if n = 36 then 180 else if n = 35 then 179 else if n = 41 then 184 else if n = 5 then 5 else if n = 9 then 9 else if n = 53 then 198 else if n = 57 then 202 else if n = 63 then 212 else if n = 64 then 140 else n, fun n => n⟩
theorem sortAL : SlLaysM.n5 Try.prog sortAR where
  mixed := by kernel_rfl
  f5 := ⟨Try.f117.name, by kernel_rfl, by kernel_rfl⟩
  f7 := ⟨Try.f144.name, by kernel_rfl, by kernel_rfl⟩
  f8 := by kernel_rfl
  f10 := ⟨Try.f154.name, by kernel_rfl, by kernel_rfl⟩
  f11 := ⟨Try.f155.name, by kernel_rfl, by kernel_rfl⟩
  f12 := ⟨Try.f156.name, by kernel_rfl, by kernel_rfl⟩
  f13 := ⟨Try.f157.name, by kernel_rfl, by kernel_rfl⟩
  f14 := ⟨Try.f158.name, by kernel_rfl, by kernel_rfl⟩
  f15 := ⟨Try.f159.name, by kernel_rfl, by kernel_rfl⟩
  f16 := ⟨Try.f160.name, by kernel_rfl, by kernel_rfl⟩
  f17 := ⟨Try.f161.name, by kernel_rfl, by kernel_rfl⟩
  f18 := ⟨Try.f162.name, by kernel_rfl, by kernel_rfl⟩
  f19 := by kernel_rfl
  f20 := by kernel_rfl
  f30 := ⟨Try.f165.name, by kernel_rfl, by kernel_rfl⟩
  f31 := by kernel_rfl
  f32 := by kernel_rfl
  f33 := ⟨Try.f166.name, by kernel_rfl, by kernel_rfl⟩
  f34 := ⟨Try.f167.name, by kernel_rfl, by kernel_rfl⟩
  f35 := ⟨Try.f94.name, by kernel_rfl, by kernel_rfl⟩
  f40 := ⟨Try.f168.name, by kernel_rfl, by kernel_rfl⟩
  t0 := by kernel_rfl
  a0 := fun _ => by kernel_rfl
  z0 := fun _ => by kernel_rfl
  v0 := fun _ => by kernel_rfl
  t3 := by kernel_rfl
  a3 := fun _ => by kernel_rfl
  z3 := fun _ => by kernel_rfl
  v3 := fun _ => by kernel_rfl
  t4 := by kernel_rfl
  a4 := fun _ => by kernel_rfl
  z4 := fun _ => by kernel_rfl
  v4 := fun _ => by kernel_rfl
  t5 := by kernel_rfl
  a5 := fun _ => by kernel_rfl
  z5 := fun _ => by kernel_rfl
  v5 := fun _ => by kernel_rfl
  t9 := by kernel_rfl
  a9 := fun _ => by kernel_rfl
  z9 := fun _ => by kernel_rfl
  v9 := fun _ => by kernel_rfl
  t22 := by kernel_rfl
  a22 := fun _ => by kernel_rfl
  z22 := fun _ => by kernel_rfl
  v22 := fun _ => by kernel_rfl
  t23 := by kernel_rfl
  a23 := fun _ => by kernel_rfl
  z23 := fun _ => by kernel_rfl
  v23 := fun _ => by kernel_rfl
  t25 := by kernel_rfl
  a25 := fun _ => by kernel_rfl
  z25 := fun _ => by kernel_rfl
  v25 := fun _ => by kernel_rfl
  t32 := by kernel_rfl
  a32 := fun _ => by kernel_rfl
  z32 := fun _ => by kernel_rfl
  v32 := fun _ => by kernel_rfl
  t35 := by kernel_rfl
  a35 := fun _ => by kernel_rfl
  z35 := fun _ => by kernel_rfl
  v35 := fun _ => by kernel_rfl
  t36 := by kernel_rfl
  a36 := fun _ => by kernel_rfl
  z36 := fun _ => by kernel_rfl
  v36 := fun _ => by kernel_rfl
  t41 := by kernel_rfl
  a41 := fun _ => by kernel_rfl
  z41 := fun _ => by kernel_rfl
  v41 := fun _ => by kernel_rfl
  t44 := by kernel_rfl
  a44 := fun _ => by kernel_rfl
  z44 := fun _ => by kernel_rfl
  v44 := fun _ => by kernel_rfl
  t46 := by kernel_rfl
  a46 := fun _ => by kernel_rfl
  z46 := fun _ => by kernel_rfl
  v46 := fun _ => by kernel_rfl
  t53 := by kernel_rfl
  a53 := fun _ => by kernel_rfl
  z53 := fun _ => by kernel_rfl
  v53 := fun _ => by kernel_rfl
  t57 := by kernel_rfl
  a57 := fun _ => by kernel_rfl
  z57 := fun _ => by kernel_rfl
  v57 := fun _ => by kernel_rfl
  t63 := by kernel_rfl
  a63 := fun _ => by kernel_rfl
  z63 := fun _ => by kernel_rfl
  v63 := fun _ => by kernel_rfl
  t64 := by kernel_rfl
  a64 := fun _ => by kernel_rfl
  z64 := fun _ => by kernel_rfl
  v64 := fun _ => by kernel_rfl
theorem sortsA (m : Nat) : AnyZI.SortsIn Try.prog sortedAR Fence.wide m :=
  ⟨fun blk off cap ss W hH hblk hsz => callsIn_wide.2 (AnyM.slices_Sort_int sortAL blk off cap ss W hH hblk hsz),
   fun p cap W => callsIn_wide.2 (AnyM.slices_Sort_int_none sortAL p cap W)⟩
theorem keysW (mb : Option Nat) (W : World) : Calls Try.prog 91 #[.map mb] W fun e w' => e = .returned (.func (.func 118) #[] #[.pointer (some ⟨W.heap.size, 0, none⟩)]) ∧ w' = W.alloc (.cells #[.map mb] 144) :=
  (callsIn_wide (n := 5)).1 (AnyZI.keys_in keysAL Fence.wide 5 trivial rfl mb W)
theorem sortedW {H : Type} (b nn : Nat) (D0 : DataW H) (R : Value → Option (DataW H × List MemPlace)) (w : World) (hown : w.ownsMap Try.prog 3 R b nn D0) (hmax : Maps.size D0 ≤ maxLen) (hbytes : Maps.size D0 * 8 ≤ 140737488355328) :
    Calls Try.prog 90 #[.func (.func 118) #[] #[.pointer (some ⟨w.heap.size, 0, none⟩)]] (w.alloc (.cells #[.map (some b)] 144)) fun e w' => ∃ (v : Value) (ss : List Int), e = .returned v ∧ ss.Perm (intKeys D0) ∧
      w'.ownsRow (w.heap.size + 1) 3 1 v ss.length ((ss.mergeSort (fun x y => decide (x ≤ y))).map encZ) ∧ (v = .slice none 0 0 ↔ ss = []) ∧ Below (w.heap.size + 1) (w.alloc (.cells #[.map (some b)] 144)) w' := by
  have hbl := hown.lt
  have hseq : SeqGives Fence.wide 2 Try.prog 118 #[.pointer (some ⟨w.heap.size, 0, none⟩)] encZ (fun ss => ss.Perm (intKeys D0)) (Maps.size D0) (w.alloc (.cells #[.map (some b)] 144)) :=
    AnyZI.keys_gives (ρ := keysAR) { keysAL with } Fence.wide _ trivial rfl (by omega) w.heap.size b nn D0 _ (by simp) (by simp) (by
      obtain ⟨es, clock, hb, Ft, hs, hD⟩ := hown
      exact ⟨es, clock, (Below.heap_alloc _ _ b hbl).trans hb, Ft, hs, hD⟩)
  have cS := AnyZI.sorted_in sortedAL Fence.wide 5 trivial trivial trivial trivial rfl (by omega) (sortsA _) (enters_of Try.func117 (by kernel_rfl) rfl) 118 #[.pointer (some ⟨w.heap.size, 0, none⟩)] trivial (enters_of Try.func118 (by kernel_rfl) rfl) _ _ hmax hbytes _ hseq
  change CallsIn _ _ Try.prog 90 _ _ _ at cS
  refine ((callsIn_wide (n := 5)).1 cS).mono ?_
  rintro e w' ⟨v, ss, h1, h2, h3, h4, h5⟩
  rw [World.size_alloc] at h3 h5
  exact ⟨v, ss, h1, h2, h3, h4, h5⟩
end Go.Proofs.Ytgmhelclofnpkaa
