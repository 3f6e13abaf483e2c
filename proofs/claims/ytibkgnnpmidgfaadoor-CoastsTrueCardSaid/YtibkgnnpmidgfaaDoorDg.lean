/- Walks: the library's slices.Reverse, laid over this program. -/
import Derived.Test.YtibkgnnpmidgfaaDoorDe
import Derived.Shelf.Slices.Reverse
namespace Go.Proofs.YtibkgnnpmidgfaaDoor
open Go.RowKit Go.Shelf Go.Sort

def rvRen : Ren := ⟨fun _ => 82, fun n => if n = 28 then 46 else n, fun n => n⟩
theorem rvLay : Lays.n112 Tryd.prog rvRen where
  mixed := by kernel_rfl
  f112 := by kernel_rfl
  t0 := by kernel_rfl
  a0 := fun _ => by kernel_rfl
  z0 := fun _ => by kernel_rfl
  v0 := fun _ => by kernel_rfl
  t3 := by kernel_rfl
  a3 := fun _ => by kernel_rfl
  z3 := fun _ => by kernel_rfl
  v3 := fun _ => by kernel_rfl
  t4 := by kernel_rfl
  a4 := fun _ => by kernel_rfl
  z4 := fun _ => by kernel_rfl
  v4 := fun _ => by kernel_rfl
  t28 := by kernel_rfl
  a28 := fun _ => by kernel_rfl
  z28 := fun _ => by kernel_rfl
  v28 := fun _ => by kernel_rfl
theorem below_putRow {B : Nat} {w : World} {blk off : Nat} {d : Array Int} (h : B ≤ blk) (n : Nat) : Below B w (putRow (Value.int .i64) (Sort.ahead w n) blk off d) := by
  refine ⟨rfl, rfl, rfl, by simp [putRow, mapBlock, Sort.ahead], fun b hb => ?_⟩
  simp only [putRow, mapBlock, Sort.ahead, Array.getElem?_modify]
  rw [if_neg (by omega)]
theorem flat_irow : ∀ zs : List Int, (zs.map irow).flatten = zs.map (Value.int .i64)
  | [] => rfl
  | z :: zs => by rw [List.map_cons, List.flatten_cons, flat_irow zs]; rfl
/-- A row of numbers of one's own, turned round. -/
theorem reverse82 (w : World) (base : Nat) (v : Value) (zs : List Int) (hg : Gro w base 3 1 v (zs.map irow)) (h0 : 0 < zs.length) (h1 : zs.length ≤ 100) :
    Calls Tryd.prog 82 #[v] w fun e w' => e = .returned (.tuple #[]) ∧ (∃ A cap, v = .slice A zs.length cap ∧ RdI w' A zs.reverse) ∧ Below base w w' := by
  obtain ⟨hr, hl, hown⟩ := hg
  have hlen : (zs.map irow).length = zs.length := List.length_map _
  have hflat : (zs.map irow).flatten = zs.map (Value.int .i64) := by
    exact flat_irow zs
  rw [hlen] at hown hl
  rcases hown with ⟨_, h⟩ | ⟨g, cap, cur, rfl, hbg, hh, hc1, _, hcs, hct⟩
  · omega
  · rw [hflat, Nat.mul_one] at hct
    have hget : ∀ j, j < zs.length → w.cell? ⟨g, 0 + j, none⟩ = some (.int .i64 (zs.toArray[j]!)) := by
      intro j hj
      have h2 : cur.toList[j]? = some (Value.int .i64 zs[j]) := by
        have h3 : (cur.toList.take zs.length)[j]? = (zs.map (Value.int .i64))[j]? := by rw [hct]
        rw [List.getElem?_take_of_lt hj, List.getElem?_map, List.getElem?_eq_getElem hj] at h3
        exact h3
      rw [Nat.zero_add]
      simp only [World.cell?, hh]
      rw [show (zs.toArray[j]!) = zs[j] by simp [hj]]
      simpa using h2
    have hH : Sort.Holds (Value.int .i64) w g 0 zs.toArray := fun j hj => ⟨hget j (by simpa using hj), by simp [World.frozen?, hh]⟩
    refine (Any.slices_Reverse_int rvLay g 0 cap zs w hH (by omega)).mono ?_
    rintro e w' ⟨rfl, n, rfl⟩
    have hH2 := Sort.holds_putRow (Value.int .i64) (Sort.ahead w n) g 0 zs.toArray zs.reverse.toArray hH (by simp)
    refine ⟨rfl, ⟨_, cap, rfl, ?_⟩, below_putRow hbg n⟩
    refine Rd.mk' (by have := (Array.getElem?_eq_some_iff.1 hh).1; simpa [putRow, mapBlock, Sort.ahead] using this) fun j r hj c u hu => ?_
    have hjl : j < zs.reverse.length := by
      have := (List.getElem?_eq_some_iff.1 hj).1
      simpa using this
    rw [List.getElem?_map, List.getElem?_eq_getElem hjl] at hj
    cases hj
    cases c with
    | zero =>
      simp [irow] at hu
      subst hu
      have := (hH2 j (by simpa using hjl)).1
      rw [Nat.mul_one, Nat.add_zero, this, getElem!_pos zs.reverse.toArray j (by simpa using hjl)]
      simp
    | succ c => simp [irow] at hu

end Go.Proofs.YtibkgnnpmidgfaaDoor
