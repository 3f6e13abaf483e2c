/- Laws: a cell of a row of one's own is written; a coast of one's own. -/
import Derived.Test.YtibkgnnpmidgfaaDoorAp
import Derived.Test.YtibkgnnpmidgfaaDoorCj
import Derived.OneCell
namespace Go.Proofs.YtibkgnnpmidgfaaDoor
open Go.RowKit

theorem heap_setCell_cells {w : World} {b : Nat} {c : Array Value} {e : TypeId} {fr : Nat × Nat} (h : w.heap[b]? = some (.cells c e fr)) (j : Nat) (u : Value) : (w.setCell ⟨b, j, none⟩ u).heap[b]? = some (.cells (c.setIfInBounds j u) e fr) := by
  obtain ⟨hlt, hk⟩ := Array.getElem?_eq_some_iff.1 h
  show (w.heap.modify b _)[b]? = _
  rw [Array.getElem?_eq_getElem (by rw [Array.size_modify]; exact hlt), Array.getElem_modify_self, hk]
  rfl
theorem ownsRow_set {w : World} {base e size g n cap : Nat} {xs : List Value} (h : w.ownsRow base e size (.slice (some ⟨g, 0, none⟩) n cap) n xs) (j : Nat) (u : Value) (_ : j < n * size) : (w.setCell ⟨g, j, none⟩ u).ownsRow base e size (.slice (some ⟨g, 0, none⟩) n cap) n (xs.set j u) := by
  obtain ⟨h1, h2⟩ := h
  refine ⟨by rw [List.length_set]; exact h1, ?_⟩
  rcases h2 with ⟨h2, _⟩ | ⟨g', cap', cur, hv, hg, hh, a1, a2, a3, a4⟩
  · cases h2
  · cases hv
    refine Or.inr ⟨g, cap, cur.setIfInBounds j u, rfl, hg, heap_setCell_cells hh j u, a1, a2, by rw [Array.size_setIfInBounds]; exact a3, ?_⟩
    rw [Array.toList_setIfInBounds, List.take_set, a4]
theorem flatten_set {sz : Nat} : ∀ (rows : List (List Value)), (∀ r ∈ rows, r.length = sz) → ∀ (i c : Nat) (r : List Value) (u : Value), rows[i]? = some r → c < sz → rows.flatten.set (i * sz + c) u = (rows.set i (r.set c u)).flatten
  | [], _, i, c, r, u, h, _ => by simp at h
  | a :: rows, hl, 0, c, r, u, h, hc => by
    have ha := hl a (List.mem_cons_self ..)
    simp only [List.getElem?_cons_zero, Option.some.injEq] at h
    subst h
    rw [List.flatten_cons, Nat.zero_mul, Nat.zero_add, List.set_append_left _ _ (by omega)]; rfl
  | a :: rows, hl, i + 1, c, r, u, h, hc => by
    have ha := hl a (List.mem_cons_self ..)
    rw [List.getElem?_cons_succ] at h
    have ih := flatten_set rows (fun x hx => hl x (List.mem_cons_of_mem _ hx)) i c r u h hc
    rw [List.flatten_cons, List.set_append_right _ _ (by rw [ha, Nat.succ_mul]; omega), ha, show (i + 1) * sz + c - sz = i * sz + c by rw [Nat.succ_mul]; omega, ih]; rfl
/-- A cell of a row of one's own is written. -/
theorem Gro.set {w : World} {base e sz g n cap : Nat} {rows : List (List Value)} (h : Gro w base e sz (.slice (some ⟨g, 0, none⟩) n cap) rows) {i c : Nat} {r : List Value} (hi : rows[i]? = some r) (hc : c < sz) (u : Value) :
    Gro (w.setCell ⟨g, i * sz + c, none⟩ u) base e sz (.slice (some ⟨g, 0, none⟩) n cap) (rows.set i (r.set c u)) := by
  obtain ⟨hl, ho⟩ := h
  have hlt := (List.getElem?_eq_some_iff.1 hi).1
  have hn : n = rows.length := by
    rcases ho.2 with ⟨h2, _⟩ | ⟨g', cap', cur, hv, _⟩
    · cases h2
    · cases hv; rfl
  subst hn
  refine ⟨fun x hx => ?_, ?_⟩
  · rcases List.mem_or_eq_of_mem_set hx with hx | rfl
    · exact hl x hx
    · rw [List.length_set]; exact hl r (List.mem_of_getElem? hi)
  · rw [← flatten_set rows hl i c r u hi hc, List.length_set]
    refine ownsRow_set ho _ u ?_
    have : (i + 1) * sz ≤ rows.length * sz := Nat.mul_le_mul_right _ (by omega)
    rw [Nat.succ_mul] at this
    omega
/-- A cell of another row is written. -/
theorem Gro.setRow {w : World} {base e sz g : Nat} {v : Value} {rows : List (List Value)} (h : Gro w base e sz v rows) {j : Nat} (hne : v.ownBlock ≠ some g) (u : Value) : Gro (w.setCell ⟨g, j, none⟩ u) base e sz v rows := ⟨h.1, ownsRow_setCell_other h.2 hne u⟩
/-- Rows of two types lie apart. -/
theorem Gro.apart {w : World} {base e sz base' e' sz' g n cap : Nat} {v : Value} {rows rows' : List (List Value)} (h : Gro w base e sz v rows) (k : Gro w base' e' sz' (.slice (some ⟨g, 0, none⟩) n cap) rows') (hne : e ≠ e') : v.ownBlock ≠ some g := by
  rcases h.2.2 with ⟨rfl, _⟩ | ⟨g1, cap1, cur1, rfl, _, h1, _⟩
  · simp [Value.ownBlock]
  · rcases k.2.2 with ⟨h2, _⟩ | ⟨g2, cap2, cur2, hv, _, h2, _⟩
    · cases h2
    · cases hv
      simp only [Value.ownBlock]
      intro e
      cases e
      rw [h1] at h2
      cases h2
      exact hne rfl
theorem Gro.lt {w : World} {base e sz g n cap : Nat} {rows : List (List Value)} (k : Gro w base e sz (.slice (some ⟨g, 0, none⟩) n cap) rows) : base ≤ g ∧ g < w.heap.size := by
  rcases k.2.2 with ⟨h2, _⟩ | ⟨g2, cap2, cur2, hv, hb, h2, _⟩
  · cases h2
  · cases hv
    exact ⟨hb, (Array.getElem?_eq_some_iff.1 h2).1⟩
theorem Gro.free {w : World} {base e sz g n cap : Nat} {rows : List (List Value)} (k : Gro w base e sz (.slice (some ⟨g, 0, none⟩) n cap) rows) (j : Nat) : w.frozen? ⟨g, j, none⟩ = false := by
  rcases k.2.2 with ⟨h2, _⟩ | ⟨g2, cap2, cur2, hv, hb, h2, _⟩
  · cases h2
  · cases hv
    simp [World.frozen?, h2]
theorem Gro.cell {w : World} {base e sz g n cap : Nat} {rows : List (List Value)} (k : Gro w base e sz (.slice (some ⟨g, 0, none⟩) n cap) rows) {i c : Nat} {r : List Value} {u : Value} (hi : rows[i]? = some r) (hc : r[c]? = some u) : w.cell? ⟨g, i * sz + c, none⟩ = some u := by
  obtain ⟨A, cap', hv, hr⟩ := k.out
  cases hv
  obtain ⟨b, off, e, _, h⟩ := hr.elem hi
  cases e
  have := h c u hc
  rwa [Nat.zero_add] at this
/-- A row that is not empty lies at an address. -/
theorem Gro.some {w : World} {base e sz : Nat} {v : Value} {rows : List (List Value)} (k : Gro w base e sz v rows) (h : 0 < rows.length) : ∃ g cap, v = .slice (some ⟨g, 0, none⟩) rows.length cap := by
  rcases k.2.2 with ⟨_, h2⟩ | ⟨g2, cap2, cur2, hv, hb, h2, _⟩
  · omega
  · exact ⟨g2, cap2, hv⟩
/-- A coast of one's own reads as one. -/
theorem rdC_of {w : World} {b0 b1 b2 : Nat} {v0 v1 v2 : Value} {B D : List Pt} {R : List Rep} (G0 : Gro w b0 40 2 v0 (B.map prow)) (G1 : Gro w b1 33 2 v1 (D.map prow)) (G2 : Gro w b2 58 4 v2 (R.map rrow))
    (l0 : B.length ≤ 140737488355328) (l1 : D.length ≤ 140737488355328) (l2 : R.length ≤ 140737488355328) (wt : ∀ r ∈ R, -9223372036854775808 ≤ r.t ∧ r.t ≤ 9223372036854775807) :
    ∃ A0 A1 A2 c0 c1 c2, v0 = .slice A0 B.length c0 ∧ v1 = .slice A1 D.length c1 ∧ v2 = .slice A2 R.length c2 ∧ RdC w A0 A1 A2 B.length D.length R.length B D R := by
  obtain ⟨A0, c0, e0, r0⟩ := G0.out
  obtain ⟨A1, c1, e1, r1⟩ := G1.out
  obtain ⟨A2, c2, e2, r2⟩ := G2.out
  rw [List.length_map] at e0 e1 e2
  exact ⟨A0, A1, A2, c0, c1, c2, e0, e1, e2, ⟨rfl, rfl, rfl, l0, l1, l2, r0, r1, r2, wt⟩⟩
theorem rdC_gro {w : World} {b0 b1 b2 n0 n1 n2 c0 c1 c2 : Nat} {A0 A1 A2 : Option Addr} {B D : List Pt} {R : List Rep} (G0 : Gro w b0 40 2 (.slice A0 n0 c0) (B.map prow)) (G1 : Gro w b1 33 2 (.slice A1 n1 c1) (D.map prow)) (G2 : Gro w b2 58 4 (.slice A2 n2 c2) (R.map rrow))
    (l0 : B.length ≤ 140737488355328) (l1 : D.length ≤ 140737488355328) (l2 : R.length ≤ 140737488355328) (wt : ∀ r ∈ R, -9223372036854775808 ≤ r.t ∧ r.t ≤ 9223372036854775807) : RdC w A0 A1 A2 n0 n1 n2 B D R := by
  obtain ⟨X0, X1, X2, y0, y1, y2, e0, e1, e2, h⟩ := rdC_of G0 G1 G2 l0 l1 l2 wt
  cases e0; cases e1; cases e2
  exact h

end Go.Proofs.YtibkgnnpmidgfaaDoor
