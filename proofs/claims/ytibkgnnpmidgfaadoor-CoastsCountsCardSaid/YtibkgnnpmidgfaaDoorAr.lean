/- Laws: a block of one's own, its type told; a struct of four cells is stored whole. -/
import Derived.Test.YtibkgnnpmidgfaaDoorAq
namespace Go.Proofs.YtibkgnnpmidgfaaDoor
open Go.RowKit

/-- Block b is one's own, of type t, and holds just these cells. -/
def OwnT (w : World) (b : Nat) (t : TypeId) (vs : List Value) : Prop := w.heap[b]? = some (.cells vs.toArray t (0, 0))
theorem OwnT.lt {w : World} {b : Nat} {t : TypeId} {vs : List Value} (h : OwnT w b t vs) : b < w.heap.size := (Array.getElem?_eq_some_iff.1 h).1
theorem OwnT.own {w : World} {b : Nat} {t : TypeId} {vs : List Value} (h : OwnT w b t vs) : Own w b vs :=
  ⟨h.lt, fun i => by simp [World.cell?, show w.heap[b]? = _ from h], fun i => by simp [World.frozen?, show w.heap[b]? = _ from h]⟩
theorem OwnT.below {w w' : World} {b B : Nat} {t : TypeId} {vs : List Value} (h : OwnT w b t vs) (k : Below B w w') (hb : b < B) : OwnT w' b t vs := (k.block b hb).trans h
theorem OwnT.new (w : World) (c : Array Value) (t : TypeId) : OwnT (w.alloc (.cells c t)) w.heap.size t c.toList := by
  unfold OwnT
  rw [Array.toArray_toList]
  exact (MapKept.heap_alloc w _).1
theorem OwnT.apart {w : World} {b base e sz : Nat} {t : TypeId} {vs : List Value} {v : Value} {rows : List (List Value)} (h : OwnT w b t vs) (k : Gro w base e sz v rows) (hne : e ≠ t) : v.ownBlock ≠ some b := by
  rcases k.2.2 with ⟨rfl, _⟩ | ⟨g1, cap1, cur1, rfl, _, h1, _⟩
  · simp [Value.ownBlock]
  · simp only [Value.ownBlock]
    intro e
    cases e
    rw [show w.heap[b]? = _ from h] at h1
    cases h1
    exact hne rfl
theorem OwnT.set {w : World} {b : Nat} {t : TypeId} {vs : List Value} (h : OwnT w b t vs) (j : Nat) (u : Value) : OwnT (w.setCell ⟨b, j, none⟩ u) b t (vs.set j u) := by
  have := heap_setCell_cells h j u
  unfold OwnT
  rw [this, List.setIfInBounds_toArray]
theorem OwnT.setOther {w : World} {b g : Nat} {t : TypeId} {vs : List Value} (h : OwnT w b t vs) (hne : b ≠ g) (j : Nat) (u : Value) : OwnT (w.setCell ⟨g, j, none⟩ u) b t vs := by
  unfold OwnT
  rw [Below.heap_setCell _ _ _ _ hne]; exact h
/-- A struct of four cells is stored. -/
abbrev put4 (w : World) (g : Nat) (x0 x1 x2 x3 : Value) : World := (((w.setCell ⟨g, 0, none⟩ x0).setCell ⟨g, 1, none⟩ x1).setCell ⟨g, 2, none⟩ x2).setCell ⟨g, 3, none⟩ x3
section
variable {w : World} {g : Nat} {x0 x1 x2 x3 : Value}
theorem put4_own {t : TypeId} {a0 a1 a2 a3 : Value} (h : OwnT w g t [a0, a1, a2, a3]) : OwnT (put4 w g x0 x1 x2 x3) g t [x0, x1, x2, x3] := (((h.set 0 x0).set 1 x1).set 2 x2).set 3 x3
theorem put4_ownT {b : Nat} {t : TypeId} {vs : List Value} (h : OwnT w b t vs) (hne : b ≠ g) : OwnT (put4 w g x0 x1 x2 x3) b t vs := (((h.setOther hne 0 x0).setOther hne 1 x1).setOther hne 2 x2).setOther hne 3 x3
theorem put4_other {b : Nat} {vs : List Value} (h : Own w b vs) (hne : g ≠ b) : Own (put4 w g x0 x1 x2 x3) b vs := (((h.setOther hne x0).setOther hne x1).setOther hne x2).setOther hne x3
theorem put4_gro {base e sz : Nat} {v : Value} {rows : List (List Value)} (h : Gro w base e sz v rows) (hne : v.ownBlock ≠ some g) : Gro (put4 w g x0 x1 x2 x3) base e sz v rows := (((h.setRow hne x0).setRow hne x1).setRow hne x2).setRow hne x3
theorem put4_below {B : Nat} {w0 : World} (h : Below B w0 w) (hg : B ≤ g) : Below B w0 (put4 w g x0 x1 x2 x3) := Below.setCell (Below.setCell (Below.setCell (Below.setCell h hg x0) hg x1) hg x2) hg x3
end
theorem Gro.keptBy {w w' : World} {base e sz : Nat} {v : Value} {rows : List (List Value)} {row : Option Nat} (h : Gro w base e sz v rows) (hg : w.grownBy w' row) (hne : v.ownBlock = none ∨ v.ownBlock ≠ row) : Gro w' base e sz v rows := ⟨h.1, h.2.kept hg hne⟩
theorem OwnT.keptBy {w w' : World} {b : Nat} {t : TypeId} {vs : List Value} {row : Option Nat} (h : OwnT w b t vs) (hg : w.grownBy w' row) (hne : some b ≠ row) : OwnT w' b t vs := (hg.block b h.lt hne).trans h
theorem Own.keptBy {w w' : World} {b : Nat} {vs : List Value} {row : Option Nat} (h : Own w b vs) (hg : w.grownBy w' row) (hne : some b ≠ row) : Own w' b vs :=
  ⟨Nat.lt_of_lt_of_le h.lt hg.size, fun i => (World.cell?_of_block (hg.block b h.lt hne)).trans (h.c i), fun i => (World.frozen?_of_block (hg.block b h.lt hne)).trans (h.f i)⟩
theorem Gro.apart2 {w : World} {base e sz base' e' sz' : Nat} {v v' : Value} {rows rows' : List (List Value)} (h : Gro w base e sz v rows) (k : Gro w base' e' sz' v' rows') (hne : e ≠ e') : v.ownBlock = none ∨ v.ownBlock ≠ v'.ownBlock := by
  rcases h.2.2 with ⟨rfl, _⟩ | ⟨g1, cap1, cur1, rfl, _, h1, _⟩
  · exact Or.inl rfl
  · right
    rcases k.2.2 with ⟨rfl, _⟩ | ⟨g2, cap2, cur2, rfl, _, h2, _⟩
    · simp [Value.ownBlock]
    · simp only [Value.ownBlock]
      intro e
      cases e
      rw [h1] at h2
      cases h2
      exact hne rfl
theorem Gro.above {w : World} {base e sz base' : Nat} {v v' : Value} {rows : List (List Value)} (h : Gro w base e sz v rows) (k : ∀ g, v'.ownBlock = Option.some g → base' ≤ g ∧ g < base) : v.ownBlock = none ∨ v.ownBlock ≠ v'.ownBlock := by
  cases hv : v.ownBlock with
  | none => exact Or.inl rfl
  | some g =>
    right
    intro e
    have h1 := (h.2.lt g hv).1
    have h2 := (k g e.symm).2
    omega
end Go.Proofs.YtibkgnnpmidgfaaDoor
