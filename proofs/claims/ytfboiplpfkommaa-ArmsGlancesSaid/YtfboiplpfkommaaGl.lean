/- How an argument that is a slice of glances is read. -/
import Derived.Test.YtfboiplpfkommaaFrame
import Derived.Test.YtfboiplpfkommaaWp
import Derived.Deep.SlicePairs
namespace Go.Proofs.Ytfboiplpfkommaa
open Go.ChangeShapes Go.WideShapes Go.ChangeAt Go.RowKit Go.Deep

def nOf : Value → Int
  | .int _ q => q
  | _ => 0
set_option maxRecDepth 100000 in
theorem open_gl {H : Type} {enc : TypeId × Value → H} {w : World} {base' : Nat} {r : Reach} {spare : Nat → Bool} {held : Bool} {v : Value} {d : DataW H} {ps : List MemPlace}
    (hv : Value.okWide Try.prog w r base' 64 v) (h : DataW.Trod enc Try.prog w 0 spare held 64 v d ps) :
    ∃ (A : Option Addr) (n cap : Nat) (gs : List Gl), v = .slice A n cap ∧ n = gs.length ∧ n ≤ maxLen ∧ RdG w A gs := by
  obtain ⟨a0, len0, cap0, rfl⟩ := okWide_slice Try.underlying64 hv
  obtain ⟨fuel, hf⟩ := h
  rcases open_slice_pairs Try.underlying64 Try.underlying71 (by kernel_rfl) (by kernel_rfl) (by kernel_rfl) (by kernel_rfl) (by kernel_rfl) hf with ⟨hcs, _⟩ | ⟨a, len, cap, m, fu, V0, V1, D0, D1, P0, P1, hcs, _, hl, hm, hmm, _, hc⟩
  · obtain ⟨rfl, rfl, rfl⟩ : a0 = none ∧ len0 = 0 ∧ cap0 = 0 := by simpa [Value.cells] using hcs
    exact ⟨none, 0, 0, [], rfl, rfl, Nat.zero_le _, Rd.nil _ _ _⟩
  · obtain ⟨rfl, rfl, rfl⟩ : a0 = some a ∧ len0 = len ∧ cap0 = cap := by simpa [Value.cells] using hcs
    have hlm : len0 ≤ m := by rw [hmm]; split <;> omega
    refine ⟨some a, len0, cap0, (List.range len0).map fun i => ⟨nOf (V0 i), nOf (V1 i)⟩, rfl, by simp, by omega, ?_⟩
    have h0 : ∀ i, i < len0 → ∃ x y : Int, V0 i = .int .i64 x ∧ V1 i = .int .i64 y := fun i hi => by
      obtain ⟨_, _, t0, t1⟩ := hc i (by omega)
      obtain ⟨x, hx, _⟩ := DataW.trod_int (by kernel_rfl) t0
      obtain ⟨y, hy, _⟩ := DataW.trod_int (by kernel_rfl) t1
      exact ⟨x, y, by simpa using hx, by simpa using hy⟩
    refine ⟨fun i hi => ?_⟩
    have hi' : 0 < len0 := by have : i < len0 := by simpa using hi
                              omega
    obtain ⟨c0, _⟩ := hc 0 (by omega)
    have hz : a.add (0 * 2) = a := by simp [Addr.add]
    rw [hz] at c0
    obtain ⟨blk, off, spot⟩ := a
    have hs : spot = none := by
      cases spot with
      | none => rfl
      | some s => simp [World.cell?] at c0; split at c0 <;> simp at c0
    subst hs
    have hb : blk < w.heap.size := by
      false_or_by_contra
      rename_i hge
      have : w.heap[blk]? = none := Array.getElem?_eq_none (by omega)
      simp [World.cell?, this] at c0
    refine ⟨blk, off, rfl, hb, fun j r hj c u hu => ?_⟩
    have hjl : j < len0 := by
      have := (List.getElem?_eq_some_iff.1 hj).1
      simpa using this
    have hr : r = grow ⟨nOf (V0 j), nOf (V1 j)⟩ := by
      simp [hjl] at hj
      exact hj.symm
    subst hr
    obtain ⟨e0, e1, _⟩ := hc j (by omega)
    obtain ⟨x, y, hx, hy⟩ := h0 j hjl
    rw [hx] at e0
    rw [hy] at e1
    have g0 : (⟨blk, off, none⟩ : Addr).add (j * 2) = ⟨blk, off + j * 2 + 0, none⟩ := by unfold Addr.add; split <;> simp_all
    have g1 : (⟨blk, off, none⟩ : Addr).add (j * 2 + 1) = ⟨blk, off + j * 2 + 1, none⟩ := by simp [Addr.add, Nat.add_assoc]
    have hc2 : c < 2 := (List.getElem?_eq_some_iff.1 hu).1
    have : c = 0 ∨ c = 1 := by omega
    rcases this with rfl | rfl
    · rw [← g0, e0, ← hu, hx]; rfl
    · rw [← g1, e1, ← hu, hy]; rfl

end Go.Proofs.Ytfboiplpfkommaa
